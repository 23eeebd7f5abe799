/- The plain law of the statement FnExactTimesAtHeight: what the program's function computes is what the reference's computes, for all arguments; no condition. -/
import Derived.Test.YtfkimnbddkjpiaaDoorPFnExactTimesAtHeightx2
namespace Go.Proofs.YtfkimnbddkjpiaaDoor.Pure
open Go.RowKit Go.Proofs.YtfkimnbddkjpiaaDoor.PFnExactTimesAtHeight Go.Proofs.YtfkimnbddkjpiaaDoorW.PrintWords Go.Proofs.YtfkimnbddkjpiaaDoorW.PrintLast Go.Proofs.YtfkimnbddkjpiaaDoorW.PrintMore

theorem Ev.s {α : Type} {g : Nat → Option α} {r : α} (h : Ev (fun k => g (k + 1)) r) : Ev g r := by
  obtain ⟨K, hK⟩ := h
  refine ⟨K + 1, fun k hk => ?_⟩
  obtain ⟨m, rfl⟩ : ∃ m, k = m + 1 := ⟨k - 1, by omega⟩
  exact hK m (by omega)
theorem Ev.c {α : Type} {o : Option α} {r : α} (h : o = some r) : Ev (fun _ => o) r := ⟨0, fun _ _ => h⟩
theorem Ev.u {α : Type} {g : Nat → Option α} {r r' : α} (h : Ev g r) (h' : Ev g r') : r = r' := by
  obtain ⟨K, hK⟩ := h
  obtain ⟨K', hK'⟩ := h'
  have a := hK (max K K') (by omega)
  have b := hK' (max K K') (by omega)
  rw [a] at b
  exact Option.some.inj b
theorem Ev.e {α : Type} {g : Nat → Option α} {r r' : α} (h : Ev g r) (e : r = r') : Ev g r' := e ▸ h
theorem Ev.bs {α β : Type} {g : Nat → Option α} {f : Nat → α → Option β} {a : α} {r : β} (h : Ev g a) (k : Ev (fun n => f n a) r) : Ev (fun n => Option.bind (g n) (f n)) r := Ev.bind h k
theorem w64 {n : Int} (h : -9223372036854775808 ≤ n) (h' : n ≤ 9223372036854775807) : wrap64 n = n := by unfold wrap64; omega
theorem rd_set (l : List Int) (i j : Int) (v : Int) (hi : 0 ≤ i) (hj : 0 ≤ j) (hl : i < (l.length : Int)) : rd (l.set i.toNat v) j = if i = j then v else rd l j := by
  unfold rd
  rw [List.getD_eq_getElem?_getD, List.getD_eq_getElem?_getD, List.getElem?_set]
  by_cases e : i = j
  · subst e; rw [if_pos rfl, if_pos rfl, if_pos (by omega)]; rfl
  · rw [if_neg (by omega), if_neg e]

theorem drop_rd (l : List Int) (i : Nat) (h : i < l.length) : l.drop i = rd l (i : Int) :: l.drop (i + 1) := by
  rw [List.drop_eq_getElem_cons h]
  unfold rd
  rw [Int.toNat_natCast, List.getD_eq_getElem?_getD, List.getElem?_eq_getElem h]
  rfl
theorem rd_get (l : List Int) (i : Nat) (h : i < l.length) : rd l (i : Int) = l[i] := by
  unfold rd
  rw [Int.toNat_natCast, List.getD_eq_getElem?_getD, List.getElem?_eq_getElem h]
  rfl
theorem wsucc (i n : Nat) (h : i < n) (hn : n ≤ 9223372036854775807) : wrap64 ((i : Int) + 1) = ((i + 1 : Nat) : Int) := by
  rw [w64 (by omega) (by omega)]; omega
theorem rd_cons_succ (x : Int) (l : List Int) (i : Nat) : rd (x :: l) ((i + 1 : Nat) : Int) = rd l (i : Int) := by
  unfold rd
  simp only [Int.toNat_natCast, List.getD_cons_succ]
theorem rd_cons_zero (x : Int) (l : List Int) : rd (x :: l) 0 = x := rfl

/-- A loop over a list, with its places. -/
def foldI {α : Type} (step : α → Nat → Int → α) : α → Nat → List Int → α
  | a, _, [] => a
  | a, i, x :: r => foldI step (step a i x) (i + 1) r
theorem loopL {α β : Type} {g : Nat → α → Int → Option β} {xs : List Int} {step : α → Nat → Int → α} {fin : α → β} (Inv : α → Nat → Prop)
    (hs : ∀ (k : Nat) (a : α) (i : Nat), Inv a i → i < xs.length → g (k + 1) a (i : Int) = g k (step a i (rd xs (i : Int))) ((i + 1 : Nat) : Int))
    (hi : ∀ (a : α) (i : Nat), Inv a i → i < xs.length → Inv (step a i (rd xs (i : Int))) (i + 1))
    (hf : ∀ (k : Nat) (a : α), Inv a xs.length → g (k + 1) a (xs.length : Int) = some (fin a)) :
    ∀ (d : Nat) (a : α) (i : Nat), i + d = xs.length → Inv a i → Ev (fun k => g k a (i : Int)) (fin (foldI step a i (xs.drop i))) := by
  intro d
  induction d with
  | zero =>
    intro a i h h0
    obtain rfl : i = xs.length := by omega
    refine Ev.s ?_
    simp only [hf _ a h0]
    rw [List.drop_of_length_le (Nat.le_refl _)]
    exact Ev.now _
  | succ d ih =>
    intro a i h h0
    refine Ev.s ?_
    simp only [hs _ a i h0 (by omega)]
    rw [drop_rd xs i (by omega)]
    exact ih _ (i + 1) (by omega) (hi a i h0 (by omega))
theorem loop0 {α β : Type} {g : Nat → α → Int → Option β} {xs : List Int} {step : α → Nat → Int → α} {fin : α → β} (Inv : α → Nat → Prop)
    (hs : ∀ (k : Nat) (a : α) (i : Nat), Inv a i → i < xs.length → g (k + 1) a (i : Int) = g k (step a i (rd xs (i : Int))) ((i + 1 : Nat) : Int))
    (hi : ∀ (a : α) (i : Nat), Inv a i → i < xs.length → Inv (step a i (rd xs (i : Int))) (i + 1))
    (hf : ∀ (k : Nat) (a : α), Inv a xs.length → g (k + 1) a (xs.length : Int) = some (fin a)) (a : α) (h0 : Inv a 0) :
    Ev (fun k => g k a 0) (fin (foldI step a 0 xs)) := by
  have := loopL Inv hs hi hf xs.length a 0 (by omega) h0
  rwa [List.drop_zero] at this

theorem bl (s : ByteArray) : s.data.toList.length = s.size := by rw [Array.length_toList]; rfl
theorem btl (s : ByteArray) (i : Nat) (h : i < s.size) : ∃ hi : i < s.data.toList.length, bt s (i : Int) = ((s.data.toList[i]'hi).toNat : Int) := by
  refine ⟨by rw [bl]; exact h, ?_⟩
  unfold bt
  rw [dif_pos (by simpa using h)]
  rfl
theorem u8_eq (c : UInt8) (n : Nat) (hn : n < 256) : ((c.toNat : Int) = (n : Int)) ↔ c = UInt8.ofNat n := by
  have e : (UInt8.ofNat n).toNat = n := by rw [UInt8.toNat_ofNat', Nat.mod_eq_of_lt hn]
  constructor
  · intro h
    have : c.toNat = n := by omega
    exact UInt8.toNat_inj.1 (by rw [e]; exact this)
  · intro h
    subst h
    rw [e]
theorem bt_eq (s : ByteArray) (i : Nat) (h : i < s.size) (n : Nat) (hn : n < 256) : bt s (i : Int) = (n : Int) ↔ s.data.toList[i]? = some (UInt8.ofNat n) := by
  obtain ⟨h', e⟩ := btl s i h
  rw [e, u8_eq _ n hn, List.getElem?_eq_getElem h']
  simp
theorem toList_eq (s : ByteArray) : s.toList = s.data.toList := by
  exact ByteArray.toList_eq s

/-- Is this byte a step? -/
def stp (c : UInt8) : Bool := c == 85 || c == 68
/-- Is this text a path? -/
def GoodP (s : ByteArray) : Bool := decide (s.size ≤ 40) && s.data.toList.all stp
theorem GoodP_iff {s : ByteArray} (h : GoodP s = true) : s.size ≤ 40 ∧ s.data.toList.all stp = true := by
  unfold GoodP at h
  simpa using h
theorem paGood_l0 (s : ByteArray) (hn : s.size ≤ 1048576) (d : Nat) : ∀ (i : Nat), i + d = s.size → Ev (fun k => spec_paGood.l0 k s (i : Int)) ((s.data.toList.drop i).all stp) := by
  induction d with
  | zero =>
    intro i h
    refine Ev.s ?_
    have c : ¬ ((i : Int) < (s.size : Int)) := by omega
    simp only [spec_paGood.l0, if_neg c]
    rw [List.drop_of_length_le (by rw [bl]; omega)]
    exact Ev.now _
  | succ d ih =>
    intro i h
    refine Ev.s ?_
    have c1 : ((i : Int) < (s.size : Int)) := by omega
    have c2 : (0 : Int) ≤ (i : Int) := by omega
    have e := wsucc i s.size (by omega) (by omega)
    obtain ⟨h', hb⟩ := btl s i (by omega)
    rw [List.drop_eq_getElem_cons h', List.all_cons]
    have h85 : bt s (i : Int) = 85 ↔ s.data.toList[i] = 85 := by rw [hb]; exact u8_eq _ 85 (by omega)
    have h68 : bt s (i : Int) = 68 ↔ s.data.toList[i] = 68 := by rw [hb]; exact u8_eq _ 68 (by omega)
    simp only [spec_paGood.l0, if_pos c1, if_pos c2, e]
    by_cases a : bt s (i : Int) = 85
    · simp only [if_pos a]
      have : stp s.data.toList[i] = true := by rw [h85.1 a]; rfl
      rw [this, Bool.true_and]
      exact ih (i + 1) (by omega)
    · simp only [if_neg a]
      by_cases b : bt s (i : Int) = 68
      · simp only [if_pos b]
        have : stp s.data.toList[i] = true := by rw [h68.1 b]; rfl
        rw [this, Bool.true_and]
        exact ih (i + 1) (by omega)
      · simp only [if_neg b]
        have : stp s.data.toList[i] = false := by
          unfold stp
          rw [h85] at a
          rw [h68] at b
          rw [beq_eq_false_iff_ne.2 a, beq_eq_false_iff_ne.2 b]; rfl
        rw [this, Bool.false_and]
        exact Ev.now _
theorem paGood_ev (s : ByteArray) (hn : s.size ≤ 1048576) : Ev (fun k => spec_paGood.f k s) (GoodP s) := by
  unfold spec_paGood.f GoodP
  by_cases h : (s.size : Int) > 40
  · simp only [if_pos h]
    rw [decide_eq_false (by omega), Bool.false_and]
    exact Ev.now _
  · simp only [if_neg h]
    rw [decide_eq_true (by omega), Bool.true_and]
    exact paGood_l0 s hn s.size 0 (by omega)
theorem dropW_nil (p : UInt8 → Bool) : ∀ l : List UInt8, l.dropWhile p = [] ↔ l.all p = true
  | [] => by simp
  | c :: r => by
    by_cases h : p c = true
    · simp [h, dropW_nil p r]
    · simp [h]
theorem all_dropW (p : UInt8 → Bool) : ∀ l : List UInt8, (l.dropWhile p).all p = l.all p
  | [] => rfl
  | c :: r => by
    by_cases h : p c = true
    · simp only [List.dropWhile_cons, h, if_true, List.all_cons, Bool.true_and]; exact all_dropW p r
    · simp only [List.dropWhile_cons, h, Bool.false_eq_true, if_false]
theorem trim_nil (l : List UInt8) : Lib.trimS l [85, 68] = [] ↔ l.all stp = true := by
  have e : (fun c : UInt8 => [85, 68].contains c) = stp := by
    funext c
    unfold stp
    simp only [List.contains_cons, List.contains_nil, Bool.or_false]
  unfold Lib.trimS Lib.trimLeftS Lib.trimRightS
  rw [e, dropW_nil, List.all_reverse, all_dropW, List.all_reverse]
theorem isPath_eq (s : ByteArray) (hn : s.size ≤ 1048576000) : impl_IsPath.f s = some (GoodP s) := by
  unfold impl_IsPath.f GoodP
  by_cases h : (s.size : Int) ≤ 40
  · rw [if_pos h, decide_eq_true (by omega), Bool.true_and]
    unfold strings_Trim.f
    rw [if_pos ⟨by omega, by decide, by decide⟩]
    simp only [Option.bind_some, toList_eq]
    congr 1
    rw [Bool.eq_iff_iff, beq_iff_eq]
    exact trim_nil _
  · rw [if_neg h, decide_eq_false (by omega), Bool.false_and]

/-- The heights of a text from a height on. -/
def hs (st : UInt8 → Int) : Int → List UInt8 → List Int
  | h, [] => [h]
  | h, c :: r => h :: hs st (h + st c) r
theorem hs_len (st : UInt8 → Int) : ∀ (l : List UInt8) (h : Int), (hs st h l).length = l.length + 1
  | [], h => rfl
  | c :: r, h => by simp only [hs, List.length_cons, hs_len st r]
theorem hs_zero (st : UInt8 → Int) (l : List UInt8) (h : Int) : rd (hs st h l) 0 = h := by cases l <;> rfl
theorem hs_succ (st : UInt8 → Int) : ∀ (l : List UInt8) (h : Int) (i : Nat) (hi : i < l.length), rd (hs st h l) ((i + 1 : Nat) : Int) = rd (hs st h l) (i : Int) + st l[i]
  | c :: r, h, 0, hi => by
    simp only [hs]
    rw [rd_cons_succ]
    exact hs_zero st r _
  | c :: r, h, i + 1, hi => by
    simp only [hs, List.getElem_cons_succ]
    rw [rd_cons_succ, rd_cons_succ]
    exact hs_succ st r _ i (by simpa using hi)
theorem hs_bd (st : UInt8 → Int) (B : Int) (hB : ∀ c, -B ≤ st c ∧ st c ≤ B) (l : List UInt8) (h : Int) : ∀ (i : Nat), i ≤ l.length → h - B * i ≤ rd (hs st h l) (i : Int) ∧ rd (hs st h l) (i : Int) ≤ h + B * i
  | 0, _ => by
    have := hs_zero st l h
    simp only [Int.natCast_zero, this]; simp
  | i + 1, hi => by
    have ih := hs_bd st B hB l h i (by omega)
    rw [hs_succ st l h i (by omega)]
    have := hB l[i]
    have e : B * ((i + 1 : Nat) : Int) = B * (i : Int) + B := by rw [Int.natCast_add, Int.mul_add]; simp
    rw [e]
    omega
theorem rd_take (l : List Int) (n i : Nat) (h : i < n) : rd (l.take n) (i : Int) = rd l (i : Int) := by
  unfold rd
  rw [Int.toNat_natCast, List.getD_eq_getElem?_getD, List.getD_eq_getElem?_getD, List.getElem?_take_of_lt h]
theorem take_rd (l : List Int) (n : Nat) (h : n < l.length) : l.take (n + 1) = l.take n ++ [rd l (n : Int)] := by
  rw [List.take_succ_eq_append_getElem h, rd_get l n h]
/-- A step of a path. -/
def st1 (c : UInt8) : Int := if c = 68 then -1 else 1
theorem st1_bd (c : UInt8) : -1 ≤ st1 c ∧ st1 c ≤ 1 := by unfold st1; split <;> omega
/-- The heights of a path. -/
def HL (s : ByteArray) : List Int := hs st1 0 s.data.toList
theorem HL_len (s : ByteArray) : (HL s).length = s.size + 1 := by unfold HL; rw [hs_len, bl]
theorem HL_bd (s : ByteArray) (h : s.size ≤ 40) (i : Nat) (hi : i ≤ s.size) : -40 ≤ rd (HL s) (i : Int) ∧ rd (HL s) (i : Int) ≤ 40 := by
  have := hs_bd st1 1 st1_bd s.data.toList 0 i (by rw [bl]; exact hi)
  unfold HL
  omega
theorem HL_succ (s : ByteArray) (i : Nat) (hi : i < s.size) : rd (HL s) ((i + 1 : Nat) : Int) = rd (HL s) (i : Int) + (if bt s (i : Int) = 68 then -1 else 1) := by
  obtain ⟨h', hb⟩ := btl s i hi
  unfold HL
  rw [hs_succ st1 _ 0 i h']
  unfold st1
  have e : (bt s (i : Int) = 68) ↔ s.data.toList[i] = 68 := by rw [hb]; exact u8_eq _ 68 (by omega)
  simp only [e]

theorem heights_ev (s : ByteArray) (hn : s.size ≤ 40) : Ev (fun k => impl_heights.f k s) (HL s) := by
  have key : ∀ (d i : Nat), i + d = s.size → Ev (fun k => impl_heights.l0 k s ((HL s).take (i + 1)) (s.size : Int) (i : Int)) (HL s) := by
    intro d
    induction d with
    | zero =>
      intro i h
      refine Ev.s ?_
      have c : ¬ ((i : Int) < (s.size : Int)) := by omega
      simp only [impl_heights.l0, if_neg c]
      rw [List.take_of_length_le (by rw [HL_len]; omega)]
      exact Ev.now _
    | succ d ih =>
      intro i h
      refine Ev.s ?_
      have c1 : ((i : Int) < (s.size : Int)) := by omega
      have c2 : (0 : Int) ≤ (i : Int) := by omega
      have hl : ((HL s).take (i + 1)).length = i + 1 := by rw [List.length_take, HL_len]; omega
      have c3 : (i : Int) < (((HL s).take (i + 1)).length : Int) := by omega
      have c4 : ((HL s).take (i + 1)).length < 17592186044416 := by omega
      have e := wsucc i s.size (by omega) (by omega)
      have hb := HL_bd s hn i (by omega)
      have hs := HL_succ s i (by omega)
      have ht := take_rd (HL s) (i + 1) (by rw [HL_len]; omega)
      have hr := rd_take (HL s) (i + 1) i (by omega)
      have hi := ih (i + 1) (by omega)
      rw [ht] at hi
      by_cases b : bt s (i : Int) = 68
      · rw [if_pos b] at hs
        have w : wrap64 (rd (HL s) (i : Int) + (-1)) = rd (HL s) ((i + 1 : Nat) : Int) := by rw [hs, w64 (by omega) (by omega)]
        simp only [impl_heights.l0, if_pos c1, if_pos c2, if_pos b, if_pos c3, if_pos c4, e, hr, w]
        exact hi
      · rw [if_neg b] at hs
        have w : wrap64 (rd (HL s) (i : Int) + 1) = rd (HL s) ((i + 1 : Nat) : Int) := by rw [hs, w64 (by omega) (by omega)]
        simp only [impl_heights.l0, if_pos c1, if_pos c2, if_neg b, if_pos c3, if_pos c4, e, hr, w]
        exact hi
  have := key s.size 0 (by omega)
  rw [take_rd (HL s) 0 (by rw [HL_len]; omega)] at this
  have h0 : rd (HL s) ((0 : Nat) : Int) = 0 := hs_zero _ _ _
  rw [h0] at this
  exact this

theorem paHeights_ev (s : ByteArray) (hn : s.size ≤ 40) : Ev (fun k => spec_paHeights.f k s) (HL s) := by
  have key : ∀ (d i : Nat), i + d = s.size → Ev (fun k => spec_paHeights.l0 k s ((HL s).take (i + 1)) (i : Int)) (HL s) := by
    intro d
    induction d with
    | zero =>
      intro i h
      refine Ev.s ?_
      have c : ¬ ((i : Int) < (s.size : Int)) := by omega
      simp only [spec_paHeights.l0, if_neg c]
      rw [List.take_of_length_le (by rw [HL_len]; omega)]
      exact Ev.now _
    | succ d ih =>
      intro i h
      refine Ev.s ?_
      have c1 : ((i : Int) < (s.size : Int)) := by omega
      have c2 : (0 : Int) ≤ (i : Int) := by omega
      have hl : ((HL s).take (i + 1)).length = i + 1 := by rw [List.length_take, HL_len]; omega
      have c3 : (i : Int) < (((HL s).take (i + 1)).length : Int) := by omega
      have c4 : ((HL s).take (i + 1)).length < 17592186044416 := by omega
      have e := wsucc i s.size (by omega) (by omega)
      have hb := HL_bd s hn i (by omega)
      have hs := HL_succ s i (by omega)
      have ht := take_rd (HL s) (i + 1) (by rw [HL_len]; omega)
      have hr := rd_take (HL s) (i + 1) i (by omega)
      have hi := ih (i + 1) (by omega)
      rw [ht] at hi
      by_cases b : bt s (i : Int) = 68
      · rw [if_pos b] at hs
        have w : wrap64 (rd (HL s) (i : Int) - 1) = rd (HL s) ((i + 1 : Nat) : Int) := by rw [hs, w64 (by omega) (by omega)]; omega
        simp only [spec_paHeights.l0, if_pos c1, if_pos c2, if_pos b, if_pos c3, if_pos c4, e, hr, w]
        exact hi
      · rw [if_neg b] at hs
        have w : wrap64 (rd (HL s) (i : Int) + 1) = rd (HL s) ((i + 1 : Nat) : Int) := by rw [hs, w64 (by omega) (by omega)]
        simp only [spec_paHeights.l0, if_pos c1, if_pos c2, if_neg b, if_pos c3, if_pos c4, e, hr, w]
        exact hi
  have := key s.size 0 (by omega)
  rw [take_rd (HL s) 0 (by rw [HL_len]; omega)] at this
  have h0 : rd (HL s) ((0 : Nat) : Int) = 0 := hs_zero _ _ _
  rw [h0] at this
  exact this

theorem spec_times (xs : List Int) (hl : xs.length ≤ 41) (hb : ∀ i : Nat, i < xs.length → -40 ≤ rd xs (i : Int) ∧ rd xs (i : Int) ≤ 40) (h : Int) : Ev (fun k => spec_TimesAtHeight.l0 k h 0 xs (xs.length : Int) 0) (((foldI (fun a _ x => if x = h then a + 1 else a) 0 0 xs), true)) := by
  refine loop0 (g := fun k a i => spec_TimesAtHeight.l0 k h a xs (xs.length : Int) i) (fin := fun a => (a, true)) (step := (fun a _ x => if x = h then a + 1 else a)) (fun a i => 0 ≤ a ∧ a ≤ i) ?_ ?_ ?_ 0 (by omega)
  · intro k a i hv hi
    have c1 : ((i : Int) < (xs.length : Int)) := by omega
    have c2 : (0 : Int) ≤ (i : Int) := by omega
    have e := wsucc i xs.length hi (by omega)
    have hx := hb i hi
    have w : wrap64 (a + 1) = a + 1 := w64 (by omega) (by omega)
    by_cases c : rd xs (i : Int) = h
    · simp only [spec_TimesAtHeight.l0, if_pos c1, if_pos c2, if_pos c, e, w]
    · simp only [spec_TimesAtHeight.l0, if_pos c1, if_pos c2, if_neg c, e]
  · intro a i hv hi
    have hx := hb i hi
    show _
    first
      | omega
      | (simp only []; split <;> omega)
      | (simp only []; split <;> (try split) <;> omega)
  · intro k a hv
    have c : ¬ ((xs.length : Int) < (xs.length : Int)) := by omega
    simp only [spec_TimesAtHeight.l0, if_neg c]
theorem impl_times (xs : List Int) (hl : xs.length ≤ 41) (hb : ∀ i : Nat, i < xs.length → -40 ≤ rd xs (i : Int) ∧ rd xs (i : Int) ≤ 40) (h : Int) : Ev (fun k => impl_TimesAtHeight.l0 k h 0 xs (xs.length : Int) 0) (((foldI (fun a _ x => if x = h then a + 1 else a) 0 0 xs), true)) := by
  refine loop0 (g := fun k a i => impl_TimesAtHeight.l0 k h a xs (xs.length : Int) i) (fin := fun a => (a, true)) (step := (fun a _ x => if x = h then a + 1 else a)) (fun a i => 0 ≤ a ∧ a ≤ i) ?_ ?_ ?_ 0 (by omega)
  · intro k a i hv hi
    have c1 : ((i : Int) < (xs.length : Int)) := by omega
    have c2 : (0 : Int) ≤ (i : Int) := by omega
    have e := wsucc i xs.length hi (by omega)
    have hx := hb i hi
    have w : wrap64 (a + 1) = a + 1 := w64 (by omega) (by omega)
    by_cases c : rd xs (i : Int) = h
    · simp only [impl_TimesAtHeight.l0, if_pos c1, if_pos c2, if_pos c, e, w]
    · simp only [impl_TimesAtHeight.l0, if_pos c1, if_pos c2, if_neg c, e]
  · intro a i hv hi
    have hx := hb i hi
    show _
    first
      | omega
      | (simp only []; split <;> omega)
      | (simp only []; split <;> (try split) <;> omega)
  · intro k a hv
    have c : ¬ ((xs.length : Int) < (xs.length : Int)) := by omega
    simp only [impl_TimesAtHeight.l0, if_neg c]
theorem FnExactTimesAtHeight : laws_FnExactTimesAtHeight.Pure := by
  intro s h _ _
  refine Ev.rounds ?_
  unfold laws_FnExactTimesAtHeight.f
  by_cases hh : (s.size : Int) > 1048576
  · simp only [if_pos hh]; exact Ev.now _
  simp only [if_neg hh]
  unfold spec_TimesAtHeight.f impl_TimesAtHeight.f
  rw [isPath_eq s (by omega)]
  by_cases g : GoodP s = true
  · have hn := (GoodP_iff g).1
    refine Ev.bs (a := ((foldI (fun a _ x => if x = h then a + 1 else a) 0 0 (HL s)), true)) (Ev.bs (paGood_ev s (by omega)) ?_) ?_
    · simp only [g, if_true]; exact Ev.bs (paHeights_ev s hn) (spec_times (HL s) (by rw [HL_len]; omega) (fun i hi => HL_bd s hn i (by rw [HL_len] at hi; omega)) h)
    · simp only [Option.bind_some, g, if_true, Option.bind_assoc]
      exact Ev.bs (heights_ev s hn) (Ev.bs (impl_times (HL s) (by rw [HL_len]; omega) (fun i hi => HL_bd s hn i (by rw [HL_len] at hi; omega)) h) (Ev.c (by simp)))
  · refine Ev.bs (a := (0, false)) (Ev.bs (paGood_ev s (by omega)) ?_) ?_
    · simp only [if_neg g]; exact Ev.now _
    · simp only [Option.bind_some, if_neg g]
      exact Ev.c (by simp)

end Go.Proofs.YtfkimnbddkjpiaaDoor.Pure
