/- The plain law of the statement FnExactCutAtReturns: what the program's function computes is what the reference's computes, for all arguments; no condition. -/
import Derived.Test.YtdidmodedgiijaaDoorPFnExactCutAtReturnsx3
namespace Go.Proofs.YtdidmodedgiijaaDoor.Pure
open Go.RowKit Go.Proofs.YtdidmodedgiijaaDoor.PFnExactCutAtReturns Go.Proofs.YtdidmodedgiijaaDoorW.PrintWords Go.Proofs.YtdidmodedgiijaaDoorW.PrintLast Go.Proofs.YtdidmodedgiijaaDoorW.PrintMore

theorem Ev.s {α : Type} {g : Nat → Option α} {r : α} (h : Ev (fun k => g (k + 1)) r) : Ev g r := by
  obtain ⟨K, hK⟩ := h
  refine ⟨K + 1, fun k hk => ?_⟩
  obtain ⟨m, rfl⟩ : ∃ m, k = m + 1 := ⟨k - 1, by omega⟩
  exact hK m (by omega)
theorem Ev.c {α : Type} {o : Option α} {r : α} (h : o = some r) : Ev (fun _ => o) r := ⟨0, fun _ _ => h⟩
theorem Ev.u {α : Type} {g : Nat → Option α} {r r' : α} (h : Ev g r) (h' : Ev g r') : r = r' := by
  obtain ⟨K, hK⟩ := h
  obtain ⟨K', hK'⟩ := h'
  have a := hK (max K K') (by omega)
  have b := hK' (max K K') (by omega)
  rw [a] at b
  exact Option.some.inj b
theorem Ev.e {α : Type} {g : Nat → Option α} {r r' : α} (h : Ev g r) (e : r = r') : Ev g r' := e ▸ h
theorem Ev.bs {α β : Type} {g : Nat → Option α} {f : Nat → α → Option β} {a : α} {r : β} (h : Ev g a) (k : Ev (fun n => f n a) r) : Ev (fun n => Option.bind (g n) (f n)) r := Ev.bind h k
theorem w64 {n : Int} (h : -9223372036854775808 ≤ n) (h' : n ≤ 9223372036854775807) : wrap64 n = n := by unfold wrap64; omega
theorem rd_set (l : List Int) (i j : Int) (v : Int) (hi : 0 ≤ i) (hj : 0 ≤ j) (hl : i < (l.length : Int)) : rd (l.set i.toNat v) j = if i = j then v else rd l j := by
  unfold rd
  rw [List.getD_eq_getElem?_getD, List.getD_eq_getElem?_getD, List.getElem?_set]
  by_cases e : i = j
  · subst e; rw [if_pos rfl, if_pos rfl, if_pos (by omega)]; rfl
  · rw [if_neg (by omega), if_neg e]

theorem drop_rd (l : List Int) (i : Nat) (h : i < l.length) : l.drop i = rd l (i : Int) :: l.drop (i + 1) := by
  rw [List.drop_eq_getElem_cons h]
  unfold rd
  rw [Int.toNat_natCast, List.getD_eq_getElem?_getD, List.getElem?_eq_getElem h]
  rfl
theorem rd_get (l : List Int) (i : Nat) (h : i < l.length) : rd l (i : Int) = l[i] := by
  unfold rd
  rw [Int.toNat_natCast, List.getD_eq_getElem?_getD, List.getElem?_eq_getElem h]
  rfl
theorem wsucc (i n : Nat) (h : i < n) (hn : n ≤ 9223372036854775807) : wrap64 ((i : Int) + 1) = ((i + 1 : Nat) : Int) := by
  rw [w64 (by omega) (by omega)]; omega
theorem rd_cons_succ (x : Int) (l : List Int) (i : Nat) : rd (x :: l) ((i + 1 : Nat) : Int) = rd l (i : Int) := by
  unfold rd
  simp only [Int.toNat_natCast, List.getD_cons_succ]
theorem rd_cons_zero (x : Int) (l : List Int) : rd (x :: l) 0 = x := rfl

/-- A loop over a list, with its places. -/
def foldI {α : Type} (step : α → Nat → Int → α) : α → Nat → List Int → α
  | a, _, [] => a
  | a, i, x :: r => foldI step (step a i x) (i + 1) r
theorem loopL {α β : Type} {g : Nat → α → Int → Option β} {xs : List Int} {step : α → Nat → Int → α} {fin : α → β} (Inv : α → Nat → Prop)
    (hs : ∀ (k : Nat) (a : α) (i : Nat), Inv a i → i < xs.length → g (k + 1) a (i : Int) = g k (step a i (rd xs (i : Int))) ((i + 1 : Nat) : Int))
    (hi : ∀ (a : α) (i : Nat), Inv a i → i < xs.length → Inv (step a i (rd xs (i : Int))) (i + 1))
    (hf : ∀ (k : Nat) (a : α), Inv a xs.length → g (k + 1) a (xs.length : Int) = some (fin a)) :
    ∀ (d : Nat) (a : α) (i : Nat), i + d = xs.length → Inv a i → Ev (fun k => g k a (i : Int)) (fin (foldI step a i (xs.drop i))) := by
  intro d
  induction d with
  | zero =>
    intro a i h h0
    obtain rfl : i = xs.length := by omega
    refine Ev.s ?_
    simp only [hf _ a h0]
    rw [List.drop_of_length_le (Nat.le_refl _)]
    exact Ev.now _
  | succ d ih =>
    intro a i h h0
    refine Ev.s ?_
    simp only [hs _ a i h0 (by omega)]
    rw [drop_rd xs i (by omega)]
    exact ih _ (i + 1) (by omega) (hi a i h0 (by omega))
theorem loop0 {α β : Type} {g : Nat → α → Int → Option β} {xs : List Int} {step : α → Nat → Int → α} {fin : α → β} (Inv : α → Nat → Prop)
    (hs : ∀ (k : Nat) (a : α) (i : Nat), Inv a i → i < xs.length → g (k + 1) a (i : Int) = g k (step a i (rd xs (i : Int))) ((i + 1 : Nat) : Int))
    (hi : ∀ (a : α) (i : Nat), Inv a i → i < xs.length → Inv (step a i (rd xs (i : Int))) (i + 1))
    (hf : ∀ (k : Nat) (a : α), Inv a xs.length → g (k + 1) a (xs.length : Int) = some (fin a)) (a : α) (h0 : Inv a 0) :
    Ev (fun k => g k a 0) (fin (foldI step a 0 xs)) := by
  have := loopL Inv hs hi hf xs.length a 0 (by omega) h0
  rwa [List.drop_zero] at this

theorem bl (s : ByteArray) : s.data.toList.length = s.size := by rw [Array.length_toList]; rfl
theorem btl (s : ByteArray) (i : Nat) (h : i < s.size) : ∃ hi : i < s.data.toList.length, bt s (i : Int) = ((s.data.toList[i]'hi).toNat : Int) := by
  refine ⟨by rw [bl]; exact h, ?_⟩
  unfold bt
  rw [dif_pos (by simpa using h)]
  rfl
theorem u8_eq (c : UInt8) (n : Nat) (hn : n < 256) : ((c.toNat : Int) = (n : Int)) ↔ c = UInt8.ofNat n := by
  have e : (UInt8.ofNat n).toNat = n := by rw [UInt8.toNat_ofNat', Nat.mod_eq_of_lt hn]
  constructor
  · intro h
    have : c.toNat = n := by omega
    exact UInt8.toNat_inj.1 (by rw [e]; exact this)
  · intro h
    subst h
    rw [e]
theorem bt_eq (s : ByteArray) (i : Nat) (h : i < s.size) (n : Nat) (hn : n < 256) : bt s (i : Int) = (n : Int) ↔ s.data.toList[i]? = some (UInt8.ofNat n) := by
  obtain ⟨h', e⟩ := btl s i h
  rw [e, u8_eq _ n hn, List.getElem?_eq_getElem h']
  simp
theorem toList_eq (s : ByteArray) : s.toList = s.data.toList := by
  exact ByteArray.toList_eq s

/-- Is this byte a step? -/
def stp (c : UInt8) : Bool := c == 85 || c == 68
/-- Is this text a path? -/
def GoodP (s : ByteArray) : Bool := decide (s.size ≤ 40) && s.data.toList.all stp
theorem GoodP_iff {s : ByteArray} (h : GoodP s = true) : s.size ≤ 40 ∧ s.data.toList.all stp = true := by
  unfold GoodP at h
  simpa using h
theorem paGood_l0 (s : ByteArray) (hn : s.size ≤ 1048576) (d : Nat) : ∀ (i : Nat), i + d = s.size → Ev (fun k => spec_paGood.l0 k s (i : Int)) ((s.data.toList.drop i).all stp) := by
  induction d with
  | zero =>
    intro i h
    refine Ev.s ?_
    have c : ¬ ((i : Int) < (s.size : Int)) := by omega
    simp only [spec_paGood.l0, if_neg c]
    rw [List.drop_of_length_le (by rw [bl]; omega)]
    exact Ev.now _
  | succ d ih =>
    intro i h
    refine Ev.s ?_
    have c1 : ((i : Int) < (s.size : Int)) := by omega
    have c2 : (0 : Int) ≤ (i : Int) := by omega
    have e := wsucc i s.size (by omega) (by omega)
    obtain ⟨h', hb⟩ := btl s i (by omega)
    rw [List.drop_eq_getElem_cons h', List.all_cons]
    have h85 : bt s (i : Int) = 85 ↔ s.data.toList[i] = 85 := by rw [hb]; exact u8_eq _ 85 (by omega)
    have h68 : bt s (i : Int) = 68 ↔ s.data.toList[i] = 68 := by rw [hb]; exact u8_eq _ 68 (by omega)
    simp only [spec_paGood.l0, if_pos c1, if_pos c2, e]
    by_cases a : bt s (i : Int) = 85
    · simp only [if_pos a]
      have : stp s.data.toList[i] = true := by rw [h85.1 a]; rfl
      rw [this, Bool.true_and]
      exact ih (i + 1) (by omega)
    · simp only [if_neg a]
      by_cases b : bt s (i : Int) = 68
      · simp only [if_pos b]
        have : stp s.data.toList[i] = true := by rw [h68.1 b]; rfl
        rw [this, Bool.true_and]
        exact ih (i + 1) (by omega)
      · simp only [if_neg b]
        have : stp s.data.toList[i] = false := by
          unfold stp
          rw [h85] at a
          rw [h68] at b
          rw [beq_eq_false_iff_ne.2 a, beq_eq_false_iff_ne.2 b]; rfl
        rw [this, Bool.false_and]
        exact Ev.now _
theorem paGood_ev (s : ByteArray) (hn : s.size ≤ 1048576) : Ev (fun k => spec_paGood.f k s) (GoodP s) := by
  unfold spec_paGood.f GoodP
  by_cases h : (s.size : Int) > 40
  · simp only [if_pos h]
    rw [decide_eq_false (by omega), Bool.false_and]
    exact Ev.now _
  · simp only [if_neg h]
    rw [decide_eq_true (by omega), Bool.true_and]
    exact paGood_l0 s hn s.size 0 (by omega)
theorem dropW_nil (p : UInt8 → Bool) : ∀ l : List UInt8, l.dropWhile p = [] ↔ l.all p = true
  | [] => by simp
  | c :: r => by
    by_cases h : p c = true
    · simp [h, dropW_nil p r]
    · simp [h]
theorem all_dropW (p : UInt8 → Bool) : ∀ l : List UInt8, (l.dropWhile p).all p = l.all p
  | [] => rfl
  | c :: r => by
    by_cases h : p c = true
    · simp only [List.dropWhile_cons, h, if_true, List.all_cons, Bool.true_and]; exact all_dropW p r
    · simp only [List.dropWhile_cons, h, Bool.false_eq_true, if_false]
theorem trim_nil (l : List UInt8) : Lib.trimS l [85, 68] = [] ↔ l.all stp = true := by
  have e : (fun c : UInt8 => [85, 68].contains c) = stp := by
    funext c
    unfold stp
    simp only [List.contains_cons, List.contains_nil, Bool.or_false]
  unfold Lib.trimS Lib.trimLeftS Lib.trimRightS
  rw [e, dropW_nil, List.all_reverse, all_dropW, List.all_reverse]
theorem isPath_eq (s : ByteArray) (hn : s.size ≤ 1048576000) : impl_IsPath.f s = some (GoodP s) := by
  unfold impl_IsPath.f GoodP
  by_cases h : (s.size : Int) ≤ 40
  · rw [if_pos h, decide_eq_true (by omega), Bool.true_and]
    unfold strings_Trim.f
    rw [if_pos ⟨by omega, by decide, by decide⟩]
    simp only [Option.bind_some, toList_eq]
    congr 1
    rw [Bool.eq_iff_iff, beq_iff_eq]
    exact trim_nil _
  · rw [if_neg h, decide_eq_false (by omega), Bool.false_and]

/-- The heights of a text from a height on. -/
def hs (st : UInt8 → Int) : Int → List UInt8 → List Int
  | h, [] => [h]
  | h, c :: r => h :: hs st (h + st c) r
theorem hs_len (st : UInt8 → Int) : ∀ (l : List UInt8) (h : Int), (hs st h l).length = l.length + 1
  | [], h => rfl
  | c :: r, h => by simp only [hs, List.length_cons, hs_len st r]
theorem hs_zero (st : UInt8 → Int) (l : List UInt8) (h : Int) : rd (hs st h l) 0 = h := by cases l <;> rfl
theorem hs_succ (st : UInt8 → Int) : ∀ (l : List UInt8) (h : Int) (i : Nat) (hi : i < l.length), rd (hs st h l) ((i + 1 : Nat) : Int) = rd (hs st h l) (i : Int) + st l[i]
  | c :: r, h, 0, hi => by
    simp only [hs]
    rw [rd_cons_succ]
    exact hs_zero st r _
  | c :: r, h, i + 1, hi => by
    simp only [hs, List.getElem_cons_succ]
    rw [rd_cons_succ, rd_cons_succ]
    exact hs_succ st r _ i (by simpa using hi)
theorem hs_bd (st : UInt8 → Int) (B : Int) (hB : ∀ c, -B ≤ st c ∧ st c ≤ B) (l : List UInt8) (h : Int) : ∀ (i : Nat), i ≤ l.length → h - B * i ≤ rd (hs st h l) (i : Int) ∧ rd (hs st h l) (i : Int) ≤ h + B * i
  | 0, _ => by
    have := hs_zero st l h
    simp only [Int.natCast_zero, this]; simp
  | i + 1, hi => by
    have ih := hs_bd st B hB l h i (by omega)
    rw [hs_succ st l h i (by omega)]
    have := hB l[i]
    have e : B * ((i + 1 : Nat) : Int) = B * (i : Int) + B := by rw [Int.natCast_add, Int.mul_add]; simp
    rw [e]
    omega
theorem rd_take (l : List Int) (n i : Nat) (h : i < n) : rd (l.take n) (i : Int) = rd l (i : Int) := by
  unfold rd
  rw [Int.toNat_natCast, List.getD_eq_getElem?_getD, List.getD_eq_getElem?_getD, List.getElem?_take_of_lt h]
theorem take_rd (l : List Int) (n : Nat) (h : n < l.length) : l.take (n + 1) = l.take n ++ [rd l (n : Int)] := by
  rw [List.take_succ_eq_append_getElem h, rd_get l n h]
/-- A step of a path. -/
def st1 (c : UInt8) : Int := if c = 68 then -1 else 1
theorem st1_bd (c : UInt8) : -1 ≤ st1 c ∧ st1 c ≤ 1 := by unfold st1; split <;> omega
/-- The heights of a path. -/
def HL (s : ByteArray) : List Int := hs st1 0 s.data.toList
theorem HL_len (s : ByteArray) : (HL s).length = s.size + 1 := by unfold HL; rw [hs_len, bl]
theorem HL_bd (s : ByteArray) (h : s.size ≤ 40) (i : Nat) (hi : i ≤ s.size) : -40 ≤ rd (HL s) (i : Int) ∧ rd (HL s) (i : Int) ≤ 40 := by
  have := hs_bd st1 1 st1_bd s.data.toList 0 i (by rw [bl]; exact hi)
  unfold HL
  omega
theorem HL_succ (s : ByteArray) (i : Nat) (hi : i < s.size) : rd (HL s) ((i + 1 : Nat) : Int) = rd (HL s) (i : Int) + (if bt s (i : Int) = 68 then -1 else 1) := by
  obtain ⟨h', hb⟩ := btl s i hi
  unfold HL
  rw [hs_succ st1 _ 0 i h']
  unfold st1
  have e : (bt s (i : Int) = 68) ↔ s.data.toList[i] = 68 := by rw [hb]; exact u8_eq _ 68 (by omega)
  simp only [e]

theorem heights_ev (s : ByteArray) (hn : s.size ≤ 40) : Ev (fun k => impl_heights.f k s) (HL s) := by
  have key : ∀ (d i : Nat), i + d = s.size → Ev (fun k => impl_heights.l0 k s ((HL s).take (i + 1)) (s.size : Int) (i : Int)) (HL s) := by
    intro d
    induction d with
    | zero =>
      intro i h
      refine Ev.s ?_
      have c : ¬ ((i : Int) < (s.size : Int)) := by omega
      simp only [impl_heights.l0, if_neg c]
      rw [List.take_of_length_le (by rw [HL_len]; omega)]
      exact Ev.now _
    | succ d ih =>
      intro i h
      refine Ev.s ?_
      have c1 : ((i : Int) < (s.size : Int)) := by omega
      have c2 : (0 : Int) ≤ (i : Int) := by omega
      have hl : ((HL s).take (i + 1)).length = i + 1 := by rw [List.length_take, HL_len]; omega
      have c3 : (i : Int) < (((HL s).take (i + 1)).length : Int) := by omega
      have c4 : ((HL s).take (i + 1)).length < 17592186044416 := by omega
      have e := wsucc i s.size (by omega) (by omega)
      have hb := HL_bd s hn i (by omega)
      have hs := HL_succ s i (by omega)
      have ht := take_rd (HL s) (i + 1) (by rw [HL_len]; omega)
      have hr := rd_take (HL s) (i + 1) i (by omega)
      have hi := ih (i + 1) (by omega)
      rw [ht] at hi
      by_cases b : bt s (i : Int) = 68
      · rw [if_pos b] at hs
        have w : wrap64 (rd (HL s) (i : Int) + (-1)) = rd (HL s) ((i + 1 : Nat) : Int) := by rw [hs, w64 (by omega) (by omega)]
        simp only [impl_heights.l0, if_pos c1, if_pos c2, if_pos b, if_pos c3, if_pos c4, e, hr, w]
        exact hi
      · rw [if_neg b] at hs
        have w : wrap64 (rd (HL s) (i : Int) + 1) = rd (HL s) ((i + 1 : Nat) : Int) := by rw [hs, w64 (by omega) (by omega)]
        simp only [impl_heights.l0, if_pos c1, if_pos c2, if_neg b, if_pos c3, if_pos c4, e, hr, w]
        exact hi
  have := key s.size 0 (by omega)
  rw [take_rd (HL s) 0 (by rw [HL_len]; omega)] at this
  have h0 : rd (HL s) ((0 : Nat) : Int) = 0 := hs_zero _ _ _
  rw [h0] at this
  exact this

theorem paHeights_ev (s : ByteArray) (hn : s.size ≤ 40) : Ev (fun k => spec_paHeights.f k s) (HL s) := by
  have key : ∀ (d i : Nat), i + d = s.size → Ev (fun k => spec_paHeights.l0 k s ((HL s).take (i + 1)) (i : Int)) (HL s) := by
    intro d
    induction d with
    | zero =>
      intro i h
      refine Ev.s ?_
      have c : ¬ ((i : Int) < (s.size : Int)) := by omega
      simp only [spec_paHeights.l0, if_neg c]
      rw [List.take_of_length_le (by rw [HL_len]; omega)]
      exact Ev.now _
    | succ d ih =>
      intro i h
      refine Ev.s ?_
      have c1 : ((i : Int) < (s.size : Int)) := by omega
      have c2 : (0 : Int) ≤ (i : Int) := by omega
      have hl : ((HL s).take (i + 1)).length = i + 1 := by rw [List.length_take, HL_len]; omega
      have c3 : (i : Int) < (((HL s).take (i + 1)).length : Int) := by omega
      have c4 : ((HL s).take (i + 1)).length < 17592186044416 := by omega
      have e := wsucc i s.size (by omega) (by omega)
      have hb := HL_bd s hn i (by omega)
      have hs := HL_succ s i (by omega)
      have ht := take_rd (HL s) (i + 1) (by rw [HL_len]; omega)
      have hr := rd_take (HL s) (i + 1) i (by omega)
      have hi := ih (i + 1) (by omega)
      rw [ht] at hi
      by_cases b : bt s (i : Int) = 68
      · rw [if_pos b] at hs
        have w : wrap64 (rd (HL s) (i : Int) - 1) = rd (HL s) ((i + 1 : Nat) : Int) := by rw [hs, w64 (by omega) (by omega)]; omega
        simp only [spec_paHeights.l0, if_pos c1, if_pos c2, if_pos b, if_pos c3, if_pos c4, e, hr, w]
        exact hi
      · rw [if_neg b] at hs
        have w : wrap64 (rd (HL s) (i : Int) + 1) = rd (HL s) ((i + 1 : Nat) : Int) := by rw [hs, w64 (by omega) (by omega)]
        simp only [spec_paHeights.l0, if_pos c1, if_pos c2, if_neg b, if_pos c3, if_pos c4, e, hr, w]
        exact hi
  have := key s.size 0 (by omega)
  rw [take_rd (HL s) 0 (by rw [HL_len]; omega)] at this
  have h0 : rd (HL s) ((0 : Nat) : Int) = 0 := hs_zero _ _ _
  rw [h0] at this
  exact this

theorem end_ev (s : ByteArray) (hn : s.size ≤ 40) : Ev (fun k => impl_end.f k s) (rd (HL s) (s.size : Int)) := by
  unfold impl_end.f
  refine Ev.bs (heights_ev s hn) ?_
  simp only [if_pos (show (0 : Int) ≤ (s.size : Int) from by omega), if_pos (show (s.size : Int) < ((HL s).length : Int) from by rw [HL_len]; omega)]
  exact Ev.now _
theorem paEnd_ev (s : ByteArray) (hn : s.size ≤ 40) : Ev (fun k => spec_paEnd.f k s) (rd (HL s) (s.size : Int)) := by
  unfold spec_paEnd.f
  refine Ev.bs (paHeights_ev s hn) ?_
  simp only [if_pos (show (0 : Int) ≤ (s.size : Int) from by omega), if_pos (show (s.size : Int) < ((HL s).length : Int) from by rw [HL_len]; omega)]
  exact Ev.now _

/-- The places behind the first with a zero. -/
def rtS (a : List Int) (i : Nat) (x : Int) : List Int := if 0 < i ∧ x = 0 then a ++ [(i : Int)] else a
def RT (s : ByteArray) : List Int := foldI rtS [] 0 (HL s)
theorem rt_len : ∀ (xs : List Int) (a : List Int) (i : Nat), (foldI rtS a i xs).length ≤ a.length + xs.length
  | [], a, _ => by simp [foldI]
  | x :: r, a, i => by
    simp only [foldI, List.length_cons]
    have := rt_len r (rtS a i x) (i + 1)
    have h2 : (rtS a i x).length ≤ a.length + 1 := by unfold rtS; split <;> simp
    omega
theorem RT_len (s : ByteArray) (hn : s.size ≤ 40) : (RT s).length ≤ 41 := by
  have := rt_len (HL s) [] 0
  rw [HL_len] at this
  unfold RT
  simp at this
  omega
theorem returns_ev (s : ByteArray) (hn : s.size ≤ 40) : Ev (fun k => impl_returns.f k s) (RT s) := by
  unfold impl_returns.f RT
  refine Ev.bs (heights_ev s hn) ?_
  have hl := HL_len s
  generalize HL s = xs at hl
  refine loop0 (g := fun k a i => impl_returns.l0 k a xs (xs.length : Int) i) (fin := fun a => a) (step := rtS) (fun a i => a.length ≤ i) ?_ ?_ ?_ [] (by simp)
  · intro k a i hv hi
    have c1 : ((i : Int) < (xs.length : Int)) := by omega
    have c2 : (0 : Int) ≤ (i : Int) := by omega
    have c4 : a.length < 17592186044416 := by omega
    have e := wsucc i xs.length hi (by omega)
    by_cases z : (i : Int) > 0
    · by_cases x : rd xs (i : Int) = 0
      · simp only [impl_returns.l0, if_pos c1, if_pos c2, if_pos z, if_pos x, if_pos c4, e, rtS, if_pos (show 0 < i ∧ rd xs (i : Int) = 0 from ⟨by omega, x⟩)]
      · simp only [impl_returns.l0, if_pos c1, if_pos c2, if_pos z, if_neg x, e, rtS, if_neg (show ¬ (0 < i ∧ rd xs (i : Int) = 0) from fun h => x h.2)]
    · simp only [impl_returns.l0, if_pos c1, if_pos c2, if_neg z, e, rtS, if_neg (show ¬ (0 < i ∧ rd xs (i : Int) = 0) from fun h => z (by omega))]
  · intro a i hv hi
    unfold rtS
    split
    · rw [List.length_append]; simp; omega
    · omega
  · intro k a hv
    have c : ¬ ((xs.length : Int) < (xs.length : Int)) := by omega
    simp only [impl_returns.l0, if_neg c]

theorem paReturns_ev (s : ByteArray) (hn : s.size ≤ 40) : Ev (fun k => spec_paReturns.f k s) (RT s) := by
  unfold spec_paReturns.f RT
  refine Ev.bs (paHeights_ev s hn) ?_
  have hl := HL_len s
  generalize HL s = xs at hl
  refine loop0 (g := fun k a i => spec_paReturns.l0 k a xs (xs.length : Int) i) (fin := fun a => a) (step := rtS) (fun a i => a.length ≤ i) ?_ ?_ ?_ [] (by simp)
  · intro k a i hv hi
    have c1 : ((i : Int) < (xs.length : Int)) := by omega
    have c2 : (0 : Int) ≤ (i : Int) := by omega
    have c4 : a.length < 17592186044416 := by omega
    have e := wsucc i xs.length hi (by omega)
    by_cases z : (i : Int) > 0
    · by_cases x : rd xs (i : Int) = 0
      · simp only [spec_paReturns.l0, if_pos c1, if_pos c2, if_pos z, if_pos x, if_pos c4, e, rtS, if_pos (show 0 < i ∧ rd xs (i : Int) = 0 from ⟨by omega, x⟩)]
      · simp only [spec_paReturns.l0, if_pos c1, if_pos c2, if_pos z, if_neg x, e, rtS, if_neg (show ¬ (0 < i ∧ rd xs (i : Int) = 0) from fun h => x h.2)]
    · simp only [spec_paReturns.l0, if_pos c1, if_pos c2, if_neg z, e, rtS, if_neg (show ¬ (0 < i ∧ rd xs (i : Int) = 0) from fun h => z (by omega))]
  · intro a i hv hi
    unfold rtS
    split
    · rw [List.length_append]; simp; omega
    · omega
  · intro k a hv
    have c : ¬ ((xs.length : Int) < (xs.length : Int)) := by omega
    simp only [spec_paReturns.l0, if_neg c]

theorem rt_sorted (B : Int) : ∀ (xs a : List Int) (i : Nat), (i : Int) + xs.length ≤ B + 1 → a.Pairwise (· < ·) → (∀ x ∈ a, 0 < x ∧ x < (i : Int)) →
    (foldI rtS a i xs).Pairwise (· < ·) ∧ ∀ x ∈ foldI rtS a i xs, 0 < x ∧ x ≤ B
  | [], a, i, hB, hp, ha => ⟨hp, fun x hx => by have := ha x hx; rw [List.length_nil] at hB; omega⟩
  | x :: r, a, i, hB, hp, ha => by
    rw [List.length_cons] at hB
    simp only [foldI]
    unfold rtS
    by_cases c : 0 < i ∧ x = 0
    · rw [if_pos c]
      refine rt_sorted B r _ (i + 1) (by omega) (List.pairwise_append.2 ⟨hp, List.pairwise_singleton _ _, fun y hy z hz => ?_⟩) (fun y hy => ?_)
      · rw [List.mem_singleton] at hz
        have := ha y hy; omega
      · rcases List.mem_append.1 hy with hy | hy
        · have := ha y hy; omega
        · rw [List.mem_singleton] at hy; omega
    · rw [if_neg c]
      exact rt_sorted B r a (i + 1) (by omega) hp (fun y hy => by have := ha y hy; omega)
theorem RT_sorted (s : ByteArray) : (RT s).Pairwise (· < ·) ∧ ∀ x ∈ RT s, 0 < x ∧ x ≤ (s.size : Int) :=
  rt_sorted s.size (HL s) [] 0 (by rw [HL_len]; omega) List.Pairwise.nil (fun _ h => absurd h List.not_mem_nil)
/-- The pieces between places. -/
def CU (s : ByteArray) : List ByteArray → Int → List Int → List ByteArray
  | a, _, [] => a
  | a, p, x :: r => CU s (a ++ [s.extract p.toNat x.toNat]) x r
theorem CU_len (s : ByteArray) : ∀ (r : List Int) (a : List ByteArray) (p : Int), (CU s a p r).length = a.length + r.length
  | [], _, _ => rfl
  | x :: r, a, p => by rw [CU, CU_len s r, List.length_append, List.length_singleton, List.length_cons]; omega

theorem implCut_l0 (s : ByteArray) (P : List Int) (hP : P.length ≤ 41) (d : Nat) : ∀ (i : Nat) (a : List ByteArray) (p : Int), i + d = P.length → a.length = i → 0 ≤ p → (P.drop i).Pairwise (· < ·) → (∀ x ∈ P.drop i, p ≤ x ∧ x ≤ (s.size : Int)) →
    Ev (fun k => impl_CutAtReturns.l0 k s a p P (P.length : Int) (i : Int)) (CU s a p (P.drop i), true) := by
  induction d with
  | zero =>
    intro i a p hi ha hp0 hpw hb
    refine Ev.s ?_
    have c : ¬ ((i : Int) < (P.length : Int)) := by omega
    simp only [impl_CutAtReturns.l0, if_neg c]
    rw [List.drop_of_length_le (by omega)]
    exact Ev.now _
  | succ d ih =>
    intro i a p hi ha hp0 hpw hb
    rw [drop_rd P i (by omega)] at hpw hb ⊢
    have h1 := hb _ (List.mem_cons_self ..)
    have h2 := List.pairwise_cons.1 hpw
    have c1 : ((i : Int) < (P.length : Int)) := by omega
    have c2 : (0 : Int) ≤ (i : Int) := by omega
    have c6 : a.length < 8796093022208 := by omega
    have hn := ih (i + 1) (a ++ [s.extract p.toNat (rd P (i : Int)).toNat]) (rd P (i : Int)) (by omega) (by rw [List.length_append, List.length_singleton, ha]) (by omega) h2.2
      (fun x hx => ⟨Int.le_of_lt (h2.1 x hx), (hb x (List.mem_cons_of_mem _ hx)).2⟩)
    rw [CU]
    refine Ev.s ?_
    simp only [impl_CutAtReturns.l0, if_pos c1, if_pos c2, if_pos hp0, if_pos h1.1, if_pos h1.2, if_pos c6, wsucc i 41 (by omega) (by omega)]
    exact hn
theorem implCut_ev (s : ByteArray) (hn : s.size ≤ 1048576) : Ev (fun k => impl_CutAtReturns.f k s) (if GoodP s = true ∧ rd (HL s) (s.size : Int) = 0 then (CU s [] 0 (RT s), true) else ([], false)) := by
  unfold impl_CutAtReturns.f
  rw [isPath_eq s (by omega)]
  by_cases g : GoodP s = true
  · have h40 := (GoodP_iff g).1
    simp only [Option.bind_some, g, if_true, true_and]
    refine Ev.bs (end_ev s h40) ?_
    refine Ev.s ?_
    by_cases z : rd (HL s) (s.size : Int) = 0
    · rw [z]
      simp only [impl_CutAtReturns.j0, bne_self_eq_false, Bool.false_eq_true, if_false, if_true]
      refine Ev.bs (returns_ev s h40) ?_
      have h := RT_sorted s
      have := implCut_l0 s (RT s) (RT_len s h40) (RT s).length 0 [] 0 (by omega) rfl (Int.le_refl _) (by rw [List.drop_zero]; exact h.1) (fun x hx => by rw [List.drop_zero] at hx; have := h.2 x hx; omega)
      rw [List.drop_zero] at this
      exact this
    · have b : (rd (HL s) (s.size : Int) != 0) = true := by simpa using z
      simp only [impl_CutAtReturns.j0, b, if_true, if_neg z]
      exact Ev.now _
  · simp only [Option.bind_some, if_neg g]
    refine Ev.s ?_
    simp only [impl_CutAtReturns.j0, if_true, if_neg (show ¬ (GoodP s = true ∧ rd (HL s) (s.size : Int) = 0) from fun h => g h.1)]
    exact Ev.now _

theorem specCut_l0 (s : ByteArray) (P : List Int) (hP : P.length ≤ 41) (d : Nat) : ∀ (i : Nat) (a : List ByteArray) (p : Int), i + d = P.length → a.length = i → 0 ≤ p → (P.drop i).Pairwise (· < ·) → (∀ x ∈ P.drop i, p ≤ x ∧ x ≤ (s.size : Int)) →
    Ev (fun k => spec_CutAtReturns.l0 k s a p P (P.length : Int) (i : Int)) (CU s a p (P.drop i), true) := by
  induction d with
  | zero =>
    intro i a p hi ha hp0 hpw hb
    refine Ev.s ?_
    have c : ¬ ((i : Int) < (P.length : Int)) := by omega
    simp only [spec_CutAtReturns.l0, if_neg c]
    rw [List.drop_of_length_le (by omega)]
    exact Ev.now _
  | succ d ih =>
    intro i a p hi ha hp0 hpw hb
    rw [drop_rd P i (by omega)] at hpw hb ⊢
    have h1 := hb _ (List.mem_cons_self ..)
    have h2 := List.pairwise_cons.1 hpw
    have c1 : ((i : Int) < (P.length : Int)) := by omega
    have c2 : (0 : Int) ≤ (i : Int) := by omega
    have c6 : a.length < 8796093022208 := by omega
    have hn := ih (i + 1) (a ++ [s.extract p.toNat (rd P (i : Int)).toNat]) (rd P (i : Int)) (by omega) (by rw [List.length_append, List.length_singleton, ha]) (by omega) h2.2
      (fun x hx => ⟨Int.le_of_lt (h2.1 x hx), (hb x (List.mem_cons_of_mem _ hx)).2⟩)
    rw [CU]
    refine Ev.s ?_
    simp only [spec_CutAtReturns.l0, if_pos c1, if_pos c2, if_pos hp0, if_pos h1.1, if_pos h1.2, if_pos c6, wsucc i 41 (by omega) (by omega)]
    exact hn
theorem specCut_ev (s : ByteArray) (hn : s.size ≤ 1048576) : Ev (fun k => spec_CutAtReturns.f k s) (if GoodP s = true ∧ rd (HL s) (s.size : Int) = 0 then (CU s [] 0 (RT s), true) else ([], false)) := by
  unfold spec_CutAtReturns.f
  refine Ev.bs (paGood_ev s hn) ?_
  by_cases g : GoodP s = true
  · have h40 := (GoodP_iff g).1
    simp only [g, if_true, true_and]
    refine Ev.bs (paEnd_ev s h40) ?_
    refine Ev.s ?_
    by_cases z : rd (HL s) (s.size : Int) = 0
    · rw [z]
      simp only [spec_CutAtReturns.j0, bne_self_eq_false, Bool.false_eq_true, if_false, if_true]
      refine Ev.bs (paReturns_ev s h40) ?_
      have h := RT_sorted s
      have := specCut_l0 s (RT s) (RT_len s h40) (RT s).length 0 [] 0 (by omega) rfl (Int.le_refl _) (by rw [List.drop_zero]; exact h.1) (fun x hx => by rw [List.drop_zero] at hx; have := h.2 x hx; omega)
      rw [List.drop_zero] at this
      exact this
    · have b : (rd (HL s) (s.size : Int) != 0) = true := by simpa using z
      simp only [spec_CutAtReturns.j0, b, if_true, if_neg z]
      exact Ev.now _
  · simp only [if_neg g]
    refine Ev.s ?_
    simp only [spec_CutAtReturns.j0, if_true, if_neg (show ¬ (GoodP s = true ∧ rd (HL s) (s.size : Int) = 0) from fun h => g h.1)]
    exact Ev.now _

theorem wnatM (n : Nat) (h : n ≤ 9223372036854775807) : wrap64 (n : Int) = (n : Int) := w64 (by omega) (by omega)

theorem strOfNums_one (x : Int) : (strOfNums [x]).size = 1 := rfl
theorem markText_ev (n : Nat) (hn : n ≤ 1000000) : ∃ r, Ev (fun k => laws_markText.f k (n : Int)) r := by
  have key : ∀ (m n : Nat) (x : ByteArray), n ≤ m → n + x.size ≤ 2000000 → ∃ r, Ev (fun k => laws_markText.l0 k (n : Int) x) r := by
    intro m
    induction m with
    | zero =>
      intro n x h hx
      refine ⟨(⟨#[109]⟩ : ByteArray) ++ x, Ev.s ?_⟩
      have c : ¬ ((n : Int) > 0) := by omega
      have c2 : 1 + x.size ≤ 9223372036854775807 := by omega
      simp only [laws_markText.l0, if_neg c, if_pos c2]
      exact Ev.now _
    | succ m ih =>
      intro n x h hx
      by_cases c : (n : Int) > 0
      · have e : Int.tdiv (n : Int) 10 = ((n / 10 : Nat) : Int) := by rw [Int.tdiv_eq_ediv_of_nonneg (by omega)]; omega
        have sz : (strOfNums [(wrap64 (48 + (Int.tmod (n : Int) 10))) % 256] ++ x).size = 1 + x.size := by rw [ByteArray.size_append, strOfNums_one]
        obtain ⟨r, hr⟩ := ih (n / 10) (strOfNums [(wrap64 (48 + (Int.tmod (n : Int) 10))) % 256] ++ x) (by omega) (by rw [sz]; omega)
        refine ⟨r, Ev.s ?_⟩
        have c2 : (strOfNums [(wrap64 (48 + (Int.tmod (n : Int) 10))) % 256]).size + x.size ≤ 9223372036854775807 := by rw [strOfNums_one]; omega
        have w := wnatM (n / 10) (by omega)
        simp only [laws_markText.l0, if_pos c, Option.bind_some, if_pos c2, e, w]
        exact hr
      · refine ⟨(⟨#[109]⟩ : ByteArray) ++ x, Ev.s ?_⟩
        have c2 : 1 + x.size ≤ 9223372036854775807 := by omega
        simp only [laws_markText.l0, if_neg c, if_pos c2]
        exact Ev.now _
  unfold laws_markText.f
  by_cases c : (n : Int) ≤ 0
  · simp only [if_pos c]; exact ⟨_, Ev.now _⟩
  · simp only [if_neg c]; exact key n n _ (Nat.le_refl _) (by show n + 0 ≤ 2000000; omega)
theorem markText_fn : ∃ f : Nat → ByteArray, ∀ n : Nat, n ≤ 1000000 → Ev (fun k => laws_markText.f k (n : Int)) (f n) :=
  ⟨fun n => if h : n ≤ 1000000 then (markText_ev n h).choose else ⟨#[]⟩, fun n h => by
    show Ev _ (if h : n ≤ 1000000 then (markText_ev n h).choose else ⟨#[]⟩)
    rw [dif_pos h]; exact (markText_ev n h).choose_spec⟩
theorem rdOf_get (d : ByteArray) (l : List ByteArray) (i : Nat) (h : i < l.length) : rdOf d l (i : Int) = l[i] := by
  unfold rdOf
  rw [Int.toNat_natCast, List.getD_eq_getElem?_getD, List.getElem?_eq_getElem h]
  rfl
theorem eqStringS_ev (l : List ByteArray) (hn : l.length ≤ 1000000) : Ev (fun k => laws_eqStringS.f k l l) true := by
  have key : ∀ (d i : Nat), i + d = l.length → Ev (fun k => laws_eqStringS.l0 k l l (i : Int)) true := by
    intro d
    induction d with
    | zero =>
      intro i hi
      refine Ev.s ?_
      have c : ¬ ((i : Int) < (l.length : Int)) := by omega
      simp only [laws_eqStringS.l0, if_neg c]
      exact Ev.now _
    | succ d ih =>
      intro i hi
      refine Ev.s ?_
      have c1 : ((i : Int) < (l.length : Int)) := by omega
      have c2 : (0 : Int) ≤ (i : Int) := by omega
      simp only [laws_eqStringS.l0, if_pos c1, if_pos c2, if_true, wsucc i l.length (by omega) (by omega)]
      exact ih (i + 1) (by omega)
  unfold laws_eqStringS.f
  simp only [if_true]
  exact key l.length 0 (by omega)
/-- The marks of a row of texts. -/
def upT (f : Nat → ByteArray) : Nat → List ByteArray
  | 0 => []
  | n + 1 => upT f n ++ [f (n + 1)]
theorem upT_len (f : Nat → ByteArray) : ∀ n, (upT f n).length = n
  | 0 => rfl
  | n + 1 => by rw [upT, List.length_append, upT_len f n, List.length_singleton]
theorem upT_get (f : Nat → ByteArray) : ∀ (n i : Nat) (h : i < (upT f n).length), (upT f n)[i] = f (i + 1)
  | n + 1, i, h => by
    rw [upT_len] at h
    by_cases c : i = n
    · subst c
      simp only [upT]
      rw [List.getElem_append_right (by rw [upT_len]; exact Nat.le_refl _)]
      simp
    · simp only [upT]
      rw [List.getElem_append_left (by rw [upT_len]; omega)]
      exact upT_get f n i _
theorem markStringS_ev (f : Nat → ByteArray) (hf : ∀ n : Nat, n ≤ 1000000 → Ev (fun k => laws_markText.f k (n : Int)) (f n)) (l : List ByteArray) (hl : l.length ≤ 999999) : Ev (fun k => laws_markStringS.f k l 1) (1 + (l.length : Int), upT f l.length) := by
  have key : ∀ (d i : Nat) (m : List ByteArray), i + d = l.length → m.length = l.length → m.take i = upT f i → Ev (fun k => laws_markStringS.l0 k m ((i + 1 : Nat) : Int) (i : Int)) (1 + (l.length : Int), upT f l.length) := by
    intro d
    induction d with
    | zero =>
      intro i m hi hm ht
      refine Ev.s ?_
      have c : ¬ ((i : Int) < (m.length : Int)) := by omega
      simp only [laws_markStringS.l0, if_neg c]
      rw [List.take_of_length_le (by omega)] at ht
      rw [ht, show i = l.length from by omega, show ((l.length + 1 : Nat) : Int) = 1 + (l.length : Int) from by omega]
      exact Ev.now _
    | succ d ih =>
      intro i m hi hm ht
      refine Ev.s ?_
      have c1 : ((i : Int) < (m.length : Int)) := by omega
      have c2 : (0 : Int) ≤ (i : Int) := by omega
      have hnext := ih (i + 1) (m.set i (f (i + 1))) (by omega) (by simpa using hm) (by
        rw [List.take_succ_eq_append_getElem (by simp; omega), List.take_set_of_le (by omega), ht, upT]
        simp)
      have e := wsucc i l.length (by omega) (by omega)
      have e2 := wsucc (i + 1) 1000000 (by omega) (by omega)
      simp only [laws_markStringS.l0, if_pos c1, if_pos c2, e, e2, Int.toNat_natCast]
      exact Ev.bs (hf (i + 1) (by omega)) hnext
  exact key l.length 0 l (by omega) rfl rfl
theorem heldStringS_ev (f : Nat → ByteArray) (hf : ∀ n : Nat, n ≤ 1000000 → Ev (fun k => laws_markText.f k (n : Int)) (f n)) (n : Nat) (hn : n ≤ 999999) : Ev (fun k => laws_heldStringS.f k (upT f n) 1) (1 + (n : Int)) := by
  have key : ∀ (d i : Nat), i + d = n → Ev (fun k => laws_heldStringS.l0 k (upT f n) ((i + 1 : Nat) : Int) (i : Int)) (1 + (n : Int)) := by
    intro d
    induction d with
    | zero =>
      intro i hi
      refine Ev.s ?_
      have c : ¬ ((i : Int) < ((upT f n).length : Int)) := by rw [upT_len]; omega
      simp only [laws_heldStringS.l0, if_neg c]
      rw [show ((i + 1 : Nat) : Int) = 1 + (n : Int) from by omega]
      exact Ev.now _
    | succ d ih =>
      intro i hi
      refine Ev.s ?_
      have c1 : ((i : Int) < ((upT f n).length : Int)) := by rw [upT_len]; omega
      have c2 : (0 : Int) ≤ (i : Int) := by omega
      have c3 : rdOf ByteArray.empty (upT f n) (i : Int) = f (i + 1) := by rw [rdOf_get _ _ _ (by rw [upT_len]; omega)]; exact upT_get f n i _
      have hnext := ih (i + 1) (by omega)
      have hfi := hf (i + 1) (by omega)
      have e := wsucc i n (by omega) (by omega)
      have e2 := wsucc (i + 1) 1000000 (by omega) (by omega)
      simp only [laws_heldStringS.l0, if_pos c1, if_pos c2, c3]
      refine Ev.bs hfi ?_
      simp only [if_true, e, e2]
      exact hnext
  exact key n 0 (by omega)

theorem CutAtReturns_frame (s : ByteArray) (v : List ByteArray) (b : Bool) (hv : v.length ≤ 999999) (e1 : Ev (fun k => spec_CutAtReturns.f k s) (v, b)) (e2 : Ev (fun k => impl_CutAtReturns.f k s) (v, b)) :
    Ev (fun k => (spec_CutAtReturns.f k s).bind fun bt1 => ((impl_CutAtReturns.f k s).bind fun bt2 => ((laws_eqStringS.f k bt2.1 bt1.1).bind fun t => (if t = true then (laws_FnExactCutAtReturns.j0 k s bt1.1 bt1.2 bt2.1 (bt2.2 != bt1.2)) else (laws_FnExactCutAtReturns.j0 k s bt1.1 bt1.2 bt2.1 true))))) true := by
  obtain ⟨f, hf⟩ := markText_fn
  have hh := heldStringS_ev f hf v.length hv
  refine Ev.bs e1 (Ev.bs e2 (Ev.bs (eqStringS_ev v (by omega)) ?_))
  simp only [if_true, bne_self_eq_false]
  refine Ev.s ?_
  simp only [laws_FnExactCutAtReturns.j0, Bool.false_eq_true, if_false]
  refine Ev.bs (markStringS_ev f hf v hv) (Ev.bs hh ?_)
  have c1 : ¬ (1 + (v.length : Int) < 0) := by omega
  simp only [if_neg c1, if_true]
  refine Ev.bs e2 (Ev.bs (eqStringS_ev v (by omega)) ?_)
  simp only [if_true, bne_self_eq_false]
  refine Ev.s ?_
  simp only [laws_FnExactCutAtReturns.j1, Bool.false_eq_true, if_false]
  refine Ev.bs hh ?_
  simp only [if_neg c1, if_true]
  exact Ev.now _
theorem FnExactCutAtReturns : laws_FnExactCutAtReturns.Pure := by
  intro s _
  refine Ev.rounds ?_
  unfold laws_FnExactCutAtReturns.f
  by_cases h : (s.size : Int) > 1048576
  · simp only [if_pos h]; exact Ev.now _
  simp only [if_neg h]
  have e1 := specCut_ev s (by omega)
  have e2 := implCut_ev s (by omega)
  by_cases g : GoodP s = true ∧ rd (HL s) (s.size : Int) = 0
  · rw [if_pos g] at e1 e2
    have := RT_len s (GoodP_iff g.1).1
    exact CutAtReturns_frame s _ true (by rw [CU_len, List.length_nil]; omega) e1 e2
  · rw [if_neg g] at e1 e2
    exact CutAtReturns_frame s _ false (by rw [List.length_nil]; omega) e1 e2

end Go.Proofs.YtdidmodedgiijaaDoor.Pure
