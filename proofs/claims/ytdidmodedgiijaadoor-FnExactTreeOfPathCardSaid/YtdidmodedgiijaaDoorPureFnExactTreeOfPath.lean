/- The plain law of the statement FnExactTreeOfPath: what the program's function computes is what the reference's computes, for all arguments; no condition. -/
import Derived.Test.YtdidmodedgiijaaDoorPFnExactTreeOfPathx4
namespace Go.Proofs.YtdidmodedgiijaaDoor.Pure
open Go.RowKit Go.Proofs.YtdidmodedgiijaaDoor.PFnExactTreeOfPath Go.Proofs.YtdidmodedgiijaaDoorW.PrintWords Go.Proofs.YtdidmodedgiijaaDoorW.PrintLast Go.Proofs.YtdidmodedgiijaaDoorW.PrintMore

theorem Ev.s {α : Type} {g : Nat → Option α} {r : α} (h : Ev (fun k => g (k + 1)) r) : Ev g r := by
  obtain ⟨K, hK⟩ := h
  refine ⟨K + 1, fun k hk => ?_⟩
  obtain ⟨m, rfl⟩ : ∃ m, k = m + 1 := ⟨k - 1, by omega⟩
  exact hK m (by omega)
theorem Ev.c {α : Type} {o : Option α} {r : α} (h : o = some r) : Ev (fun _ => o) r := ⟨0, fun _ _ => h⟩
theorem Ev.u {α : Type} {g : Nat → Option α} {r r' : α} (h : Ev g r) (h' : Ev g r') : r = r' := by
  obtain ⟨K, hK⟩ := h
  obtain ⟨K', hK'⟩ := h'
  have a := hK (max K K') (by omega)
  have b := hK' (max K K') (by omega)
  rw [a] at b
  exact Option.some.inj b
theorem Ev.e {α : Type} {g : Nat → Option α} {r r' : α} (h : Ev g r) (e : r = r') : Ev g r' := e ▸ h
theorem Ev.bs {α β : Type} {g : Nat → Option α} {f : Nat → α → Option β} {a : α} {r : β} (h : Ev g a) (k : Ev (fun n => f n a) r) : Ev (fun n => Option.bind (g n) (f n)) r := Ev.bind h k
theorem w64 {n : Int} (h : -9223372036854775808 ≤ n) (h' : n ≤ 9223372036854775807) : wrap64 n = n := by unfold wrap64; omega
theorem rd_set (l : List Int) (i j : Int) (v : Int) (hi : 0 ≤ i) (hj : 0 ≤ j) (hl : i < (l.length : Int)) : rd (l.set i.toNat v) j = if i = j then v else rd l j := by
  unfold rd
  rw [List.getD_eq_getElem?_getD, List.getD_eq_getElem?_getD, List.getElem?_set]
  by_cases e : i = j
  · subst e; rw [if_pos rfl, if_pos rfl, if_pos (by omega)]; rfl
  · rw [if_neg (by omega), if_neg e]

theorem drop_rd (l : List Int) (i : Nat) (h : i < l.length) : l.drop i = rd l (i : Int) :: l.drop (i + 1) := by
  rw [List.drop_eq_getElem_cons h]
  unfold rd
  rw [Int.toNat_natCast, List.getD_eq_getElem?_getD, List.getElem?_eq_getElem h]
  rfl
theorem rd_get (l : List Int) (i : Nat) (h : i < l.length) : rd l (i : Int) = l[i] := by
  unfold rd
  rw [Int.toNat_natCast, List.getD_eq_getElem?_getD, List.getElem?_eq_getElem h]
  rfl
theorem wsucc (i n : Nat) (h : i < n) (hn : n ≤ 9223372036854775807) : wrap64 ((i : Int) + 1) = ((i + 1 : Nat) : Int) := by
  rw [w64 (by omega) (by omega)]; omega
theorem rd_cons_succ (x : Int) (l : List Int) (i : Nat) : rd (x :: l) ((i + 1 : Nat) : Int) = rd l (i : Int) := by
  unfold rd
  simp only [Int.toNat_natCast, List.getD_cons_succ]
theorem rd_cons_zero (x : Int) (l : List Int) : rd (x :: l) 0 = x := rfl

theorem rd_last (a : List Int) (x : Int) : rd (a ++ [x]) (a.length : Int) = x := by
  unfold rd
  rw [Int.toNat_natCast, List.getD_eq_getElem?_getD, List.getElem?_append_right (Nat.le_refl _), Nat.sub_self]
  rfl
theorem rd_app (a b : List Int) (i : Int) (h0 : 0 ≤ i) (h : i < (a.length : Int)) : rd (a ++ b) i = rd a i := by
  unfold rd
  rw [List.getD_eq_getElem?_getD, List.getD_eq_getElem?_getD, List.getElem?_append_left (by omega)]
theorem take_last (a : List Int) (x : Int) : (a ++ [x]).take a.length = a := by
  rw [List.take_append_of_le_length (Nat.le_refl _), List.take_length]
theorem set_last (a : List Int) (x y : Int) : (a ++ [x]).set a.length y = a ++ [y] := by
  rw [List.set_append_right _ _ (Nat.le_refl _), Nat.sub_self]
  rfl
theorem last_len (a : List Int) (x : Int) (h : a.length ≤ 1000) : wrap64 (((a ++ [x]).length : Int) - 1) = (a.length : Int) := by
  rw [List.length_append, List.length_singleton, w64 (by omega) (by omega)]; omega

/-- A loop over a list, with its places. -/
def foldI {α : Type} (step : α → Nat → Int → α) : α → Nat → List Int → α
  | a, _, [] => a
  | a, i, x :: r => foldI step (step a i x) (i + 1) r
theorem loopL {α β : Type} {g : Nat → α → Int → Option β} {xs : List Int} {step : α → Nat → Int → α} {fin : α → β} (Inv : α → Nat → Prop)
    (hs : ∀ (k : Nat) (a : α) (i : Nat), Inv a i → i < xs.length → g (k + 1) a (i : Int) = g k (step a i (rd xs (i : Int))) ((i + 1 : Nat) : Int))
    (hi : ∀ (a : α) (i : Nat), Inv a i → i < xs.length → Inv (step a i (rd xs (i : Int))) (i + 1))
    (hf : ∀ (k : Nat) (a : α), Inv a xs.length → g (k + 1) a (xs.length : Int) = some (fin a)) :
    ∀ (d : Nat) (a : α) (i : Nat), i + d = xs.length → Inv a i → Ev (fun k => g k a (i : Int)) (fin (foldI step a i (xs.drop i))) := by
  intro d
  induction d with
  | zero =>
    intro a i h h0
    obtain rfl : i = xs.length := by omega
    refine Ev.s ?_
    simp only [hf _ a h0]
    rw [List.drop_of_length_le (Nat.le_refl _)]
    exact Ev.now _
  | succ d ih =>
    intro a i h h0
    refine Ev.s ?_
    simp only [hs _ a i h0 (by omega)]
    rw [drop_rd xs i (by omega)]
    exact ih _ (i + 1) (by omega) (hi a i h0 (by omega))
theorem loop0 {α β : Type} {g : Nat → α → Int → Option β} {xs : List Int} {step : α → Nat → Int → α} {fin : α → β} (Inv : α → Nat → Prop)
    (hs : ∀ (k : Nat) (a : α) (i : Nat), Inv a i → i < xs.length → g (k + 1) a (i : Int) = g k (step a i (rd xs (i : Int))) ((i + 1 : Nat) : Int))
    (hi : ∀ (a : α) (i : Nat), Inv a i → i < xs.length → Inv (step a i (rd xs (i : Int))) (i + 1))
    (hf : ∀ (k : Nat) (a : α), Inv a xs.length → g (k + 1) a (xs.length : Int) = some (fin a)) (a : α) (h0 : Inv a 0) :
    Ev (fun k => g k a 0) (fin (foldI step a 0 xs)) := by
  have := loopL Inv hs hi hf xs.length a 0 (by omega) h0
  rwa [List.drop_zero] at this

theorem bl (s : ByteArray) : s.data.toList.length = s.size := by rw [Array.length_toList]; rfl
theorem btl (s : ByteArray) (i : Nat) (h : i < s.size) : ∃ hi : i < s.data.toList.length, bt s (i : Int) = ((s.data.toList[i]'hi).toNat : Int) := by
  refine ⟨by rw [bl]; exact h, ?_⟩
  unfold bt
  rw [dif_pos (by simpa using h)]
  rfl
theorem u8_eq (c : UInt8) (n : Nat) (hn : n < 256) : ((c.toNat : Int) = (n : Int)) ↔ c = UInt8.ofNat n := by
  have e : (UInt8.ofNat n).toNat = n := by rw [UInt8.toNat_ofNat', Nat.mod_eq_of_lt hn]
  constructor
  · intro h
    have : c.toNat = n := by omega
    exact UInt8.toNat_inj.1 (by rw [e]; exact this)
  · intro h
    subst h
    rw [e]
theorem bt_eq (s : ByteArray) (i : Nat) (h : i < s.size) (n : Nat) (hn : n < 256) : bt s (i : Int) = (n : Int) ↔ s.data.toList[i]? = some (UInt8.ofNat n) := by
  obtain ⟨h', e⟩ := btl s i h
  rw [e, u8_eq _ n hn, List.getElem?_eq_getElem h']
  simp
theorem toList_eq (s : ByteArray) : s.toList = s.data.toList := by
  exact ByteArray.toList_eq s

/-- Is this byte a step? -/
def stp (c : UInt8) : Bool := c == 85 || c == 68
/-- Is this text a path? -/
def GoodP (s : ByteArray) : Bool := decide (s.size ≤ 40) && s.data.toList.all stp
theorem GoodP_iff {s : ByteArray} (h : GoodP s = true) : s.size ≤ 40 ∧ s.data.toList.all stp = true := by
  unfold GoodP at h
  simpa using h
theorem paGood_l0 (s : ByteArray) (hn : s.size ≤ 1048576) (d : Nat) : ∀ (i : Nat), i + d = s.size → Ev (fun k => spec_paGood.l0 k s (i : Int)) ((s.data.toList.drop i).all stp) := by
  induction d with
  | zero =>
    intro i h
    refine Ev.s ?_
    have c : ¬ ((i : Int) < (s.size : Int)) := by omega
    simp only [spec_paGood.l0, if_neg c]
    rw [List.drop_of_length_le (by rw [bl]; omega)]
    exact Ev.now _
  | succ d ih =>
    intro i h
    refine Ev.s ?_
    have c1 : ((i : Int) < (s.size : Int)) := by omega
    have c2 : (0 : Int) ≤ (i : Int) := by omega
    have e := wsucc i s.size (by omega) (by omega)
    obtain ⟨h', hb⟩ := btl s i (by omega)
    rw [List.drop_eq_getElem_cons h', List.all_cons]
    have h85 : bt s (i : Int) = 85 ↔ s.data.toList[i] = 85 := by rw [hb]; exact u8_eq _ 85 (by omega)
    have h68 : bt s (i : Int) = 68 ↔ s.data.toList[i] = 68 := by rw [hb]; exact u8_eq _ 68 (by omega)
    simp only [spec_paGood.l0, if_pos c1, if_pos c2, e]
    by_cases a : bt s (i : Int) = 85
    · simp only [if_pos a]
      have : stp s.data.toList[i] = true := by rw [h85.1 a]; rfl
      rw [this, Bool.true_and]
      exact ih (i + 1) (by omega)
    · simp only [if_neg a]
      by_cases b : bt s (i : Int) = 68
      · simp only [if_pos b]
        have : stp s.data.toList[i] = true := by rw [h68.1 b]; rfl
        rw [this, Bool.true_and]
        exact ih (i + 1) (by omega)
      · simp only [if_neg b]
        have : stp s.data.toList[i] = false := by
          unfold stp
          rw [h85] at a
          rw [h68] at b
          rw [beq_eq_false_iff_ne.2 a, beq_eq_false_iff_ne.2 b]; rfl
        rw [this, Bool.false_and]
        exact Ev.now _
theorem paGood_ev (s : ByteArray) (hn : s.size ≤ 1048576) : Ev (fun k => spec_paGood.f k s) (GoodP s) := by
  unfold spec_paGood.f GoodP
  by_cases h : (s.size : Int) > 40
  · simp only [if_pos h]
    rw [decide_eq_false (by omega), Bool.false_and]
    exact Ev.now _
  · simp only [if_neg h]
    rw [decide_eq_true (by omega), Bool.true_and]
    exact paGood_l0 s hn s.size 0 (by omega)
theorem dropW_nil (p : UInt8 → Bool) : ∀ l : List UInt8, l.dropWhile p = [] ↔ l.all p = true
  | [] => by simp
  | c :: r => by
    by_cases h : p c = true
    · simp [h, dropW_nil p r]
    · simp [h]
theorem all_dropW (p : UInt8 → Bool) : ∀ l : List UInt8, (l.dropWhile p).all p = l.all p
  | [] => rfl
  | c :: r => by
    by_cases h : p c = true
    · simp only [List.dropWhile_cons, h, if_true, List.all_cons, Bool.true_and]; exact all_dropW p r
    · simp only [List.dropWhile_cons, h, Bool.false_eq_true, if_false]
theorem trim_nil (l : List UInt8) : Lib.trimS l [85, 68] = [] ↔ l.all stp = true := by
  have e : (fun c : UInt8 => [85, 68].contains c) = stp := by
    funext c
    unfold stp
    simp only [List.contains_cons, List.contains_nil, Bool.or_false]
  unfold Lib.trimS Lib.trimLeftS Lib.trimRightS
  rw [e, dropW_nil, List.all_reverse, all_dropW, List.all_reverse]
theorem isPath_eq (s : ByteArray) (hn : s.size ≤ 1048576000) : impl_IsPath.f s = some (GoodP s) := by
  unfold impl_IsPath.f GoodP
  by_cases h : (s.size : Int) ≤ 40
  · rw [if_pos h, decide_eq_true (by omega), Bool.true_and]
    unfold strings_Trim.f
    rw [if_pos ⟨by omega, by decide, by decide⟩]
    simp only [Option.bind_some, toList_eq]
    congr 1
    rw [Bool.eq_iff_iff, beq_iff_eq]
    exact trim_nil _
  · rw [if_neg h, decide_eq_false (by omega), Bool.false_and]

/-- The heights of a text from a height on. -/
def hs (st : UInt8 → Int) : Int → List UInt8 → List Int
  | h, [] => [h]
  | h, c :: r => h :: hs st (h + st c) r
theorem hs_len (st : UInt8 → Int) : ∀ (l : List UInt8) (h : Int), (hs st h l).length = l.length + 1
  | [], h => rfl
  | c :: r, h => by simp only [hs, List.length_cons, hs_len st r]
theorem hs_zero (st : UInt8 → Int) (l : List UInt8) (h : Int) : rd (hs st h l) 0 = h := by cases l <;> rfl
theorem hs_succ (st : UInt8 → Int) : ∀ (l : List UInt8) (h : Int) (i : Nat) (hi : i < l.length), rd (hs st h l) ((i + 1 : Nat) : Int) = rd (hs st h l) (i : Int) + st l[i]
  | c :: r, h, 0, hi => by
    simp only [hs]
    rw [rd_cons_succ]
    exact hs_zero st r _
  | c :: r, h, i + 1, hi => by
    simp only [hs, List.getElem_cons_succ]
    rw [rd_cons_succ, rd_cons_succ]
    exact hs_succ st r _ i (by simpa using hi)
theorem hs_bd (st : UInt8 → Int) (B : Int) (hB : ∀ c, -B ≤ st c ∧ st c ≤ B) (l : List UInt8) (h : Int) : ∀ (i : Nat), i ≤ l.length → h - B * i ≤ rd (hs st h l) (i : Int) ∧ rd (hs st h l) (i : Int) ≤ h + B * i
  | 0, _ => by
    have := hs_zero st l h
    simp only [Int.natCast_zero, this]; simp
  | i + 1, hi => by
    have ih := hs_bd st B hB l h i (by omega)
    rw [hs_succ st l h i (by omega)]
    have := hB l[i]
    have e : B * ((i + 1 : Nat) : Int) = B * (i : Int) + B := by rw [Int.natCast_add, Int.mul_add]; simp
    rw [e]
    omega
theorem rd_take (l : List Int) (n i : Nat) (h : i < n) : rd (l.take n) (i : Int) = rd l (i : Int) := by
  unfold rd
  rw [Int.toNat_natCast, List.getD_eq_getElem?_getD, List.getD_eq_getElem?_getD, List.getElem?_take_of_lt h]
theorem take_rd (l : List Int) (n : Nat) (h : n < l.length) : l.take (n + 1) = l.take n ++ [rd l (n : Int)] := by
  rw [List.take_succ_eq_append_getElem h, rd_get l n h]
/-- A step of a path. -/
def st1 (c : UInt8) : Int := if c = 68 then -1 else 1
theorem st1_bd (c : UInt8) : -1 ≤ st1 c ∧ st1 c ≤ 1 := by unfold st1; split <;> omega
/-- The heights of a path. -/
def HL (s : ByteArray) : List Int := hs st1 0 s.data.toList
theorem HL_len (s : ByteArray) : (HL s).length = s.size + 1 := by unfold HL; rw [hs_len, bl]
theorem HL_bd (s : ByteArray) (h : s.size ≤ 40) (i : Nat) (hi : i ≤ s.size) : -40 ≤ rd (HL s) (i : Int) ∧ rd (HL s) (i : Int) ≤ 40 := by
  have := hs_bd st1 1 st1_bd s.data.toList 0 i (by rw [bl]; exact hi)
  unfold HL
  omega
theorem HL_succ (s : ByteArray) (i : Nat) (hi : i < s.size) : rd (HL s) ((i + 1 : Nat) : Int) = rd (HL s) (i : Int) + (if bt s (i : Int) = 68 then -1 else 1) := by
  obtain ⟨h', hb⟩ := btl s i hi
  unfold HL
  rw [hs_succ st1 _ 0 i h']
  unfold st1
  have e : (bt s (i : Int) = 68) ↔ s.data.toList[i] = 68 := by rw [hb]; exact u8_eq _ 68 (by omega)
  simp only [e]

theorem heights_ev (s : ByteArray) (hn : s.size ≤ 40) : Ev (fun k => impl_heights.f k s) (HL s) := by
  have key : ∀ (d i : Nat), i + d = s.size → Ev (fun k => impl_heights.l0 k s ((HL s).take (i + 1)) (s.size : Int) (i : Int)) (HL s) := by
    intro d
    induction d with
    | zero =>
      intro i h
      refine Ev.s ?_
      have c : ¬ ((i : Int) < (s.size : Int)) := by omega
      simp only [impl_heights.l0, if_neg c]
      rw [List.take_of_length_le (by rw [HL_len]; omega)]
      exact Ev.now _
    | succ d ih =>
      intro i h
      refine Ev.s ?_
      have c1 : ((i : Int) < (s.size : Int)) := by omega
      have c2 : (0 : Int) ≤ (i : Int) := by omega
      have hl : ((HL s).take (i + 1)).length = i + 1 := by rw [List.length_take, HL_len]; omega
      have c3 : (i : Int) < (((HL s).take (i + 1)).length : Int) := by omega
      have c4 : ((HL s).take (i + 1)).length < 17592186044416 := by omega
      have e := wsucc i s.size (by omega) (by omega)
      have hb := HL_bd s hn i (by omega)
      have hs := HL_succ s i (by omega)
      have ht := take_rd (HL s) (i + 1) (by rw [HL_len]; omega)
      have hr := rd_take (HL s) (i + 1) i (by omega)
      have hi := ih (i + 1) (by omega)
      rw [ht] at hi
      by_cases b : bt s (i : Int) = 68
      · rw [if_pos b] at hs
        have w : wrap64 (rd (HL s) (i : Int) + (-1)) = rd (HL s) ((i + 1 : Nat) : Int) := by rw [hs, w64 (by omega) (by omega)]
        simp only [impl_heights.l0, if_pos c1, if_pos c2, if_pos b, if_pos c3, if_pos c4, e, hr, w]
        exact hi
      · rw [if_neg b] at hs
        have w : wrap64 (rd (HL s) (i : Int) + 1) = rd (HL s) ((i + 1 : Nat) : Int) := by rw [hs, w64 (by omega) (by omega)]
        simp only [impl_heights.l0, if_pos c1, if_pos c2, if_neg b, if_pos c3, if_pos c4, e, hr, w]
        exact hi
  have := key s.size 0 (by omega)
  rw [take_rd (HL s) 0 (by rw [HL_len]; omega)] at this
  have h0 : rd (HL s) ((0 : Nat) : Int) = 0 := hs_zero _ _ _
  rw [h0] at this
  exact this

theorem paHeights_ev (s : ByteArray) (hn : s.size ≤ 40) : Ev (fun k => spec_paHeights.f k s) (HL s) := by
  have key : ∀ (d i : Nat), i + d = s.size → Ev (fun k => spec_paHeights.l0 k s ((HL s).take (i + 1)) (i : Int)) (HL s) := by
    intro d
    induction d with
    | zero =>
      intro i h
      refine Ev.s ?_
      have c : ¬ ((i : Int) < (s.size : Int)) := by omega
      simp only [spec_paHeights.l0, if_neg c]
      rw [List.take_of_length_le (by rw [HL_len]; omega)]
      exact Ev.now _
    | succ d ih =>
      intro i h
      refine Ev.s ?_
      have c1 : ((i : Int) < (s.size : Int)) := by omega
      have c2 : (0 : Int) ≤ (i : Int) := by omega
      have hl : ((HL s).take (i + 1)).length = i + 1 := by rw [List.length_take, HL_len]; omega
      have c3 : (i : Int) < (((HL s).take (i + 1)).length : Int) := by omega
      have c4 : ((HL s).take (i + 1)).length < 17592186044416 := by omega
      have e := wsucc i s.size (by omega) (by omega)
      have hb := HL_bd s hn i (by omega)
      have hs := HL_succ s i (by omega)
      have ht := take_rd (HL s) (i + 1) (by rw [HL_len]; omega)
      have hr := rd_take (HL s) (i + 1) i (by omega)
      have hi := ih (i + 1) (by omega)
      rw [ht] at hi
      by_cases b : bt s (i : Int) = 68
      · rw [if_pos b] at hs
        have w : wrap64 (rd (HL s) (i : Int) - 1) = rd (HL s) ((i + 1 : Nat) : Int) := by rw [hs, w64 (by omega) (by omega)]; omega
        simp only [spec_paHeights.l0, if_pos c1, if_pos c2, if_pos b, if_pos c3, if_pos c4, e, hr, w]
        exact hi
      · rw [if_neg b] at hs
        have w : wrap64 (rd (HL s) (i : Int) + 1) = rd (HL s) ((i + 1 : Nat) : Int) := by rw [hs, w64 (by omega) (by omega)]
        simp only [spec_paHeights.l0, if_pos c1, if_pos c2, if_neg b, if_pos c3, if_pos c4, e, hr, w]
        exact hi
  have := key s.size 0 (by omega)
  rw [take_rd (HL s) 0 (by rw [HL_len]; omega)] at this
  have h0 : rd (HL s) ((0 : Nat) : Int) = 0 := hs_zero _ _ _
  rw [h0] at this
  exact this

theorem end_ev (s : ByteArray) (hn : s.size ≤ 40) : Ev (fun k => impl_end.f k s) (rd (HL s) (s.size : Int)) := by
  unfold impl_end.f
  refine Ev.bs (heights_ev s hn) ?_
  simp only [if_pos (show (0 : Int) ≤ (s.size : Int) from by omega), if_pos (show (s.size : Int) < ((HL s).length : Int) from by rw [HL_len]; omega)]
  exact Ev.now _
theorem paEnd_ev (s : ByteArray) (hn : s.size ≤ 40) : Ev (fun k => spec_paEnd.f k s) (rd (HL s) (s.size : Int)) := by
  unfold spec_paEnd.f
  refine Ev.bs (paHeights_ev s hn) ?_
  simp only [if_pos (show (0 : Int) ≤ (s.size : Int) from by omega), if_pos (show (s.size : Int) < ((HL s).length : Int) from by rw [HL_len]; omega)]
  exact Ev.now _

theorem eqIntS_l0 (l m : List Int) (hl : l.length = m.length) (hn : l.length ≤ 35184372088832) (d : Nat) : ∀ (i : Nat), i + d = l.length →
    Ev (fun k => laws_eqIntS.l0 k l m (i : Int)) (decide (l.drop i = m.drop i)) := by
  induction d with
  | zero =>
    intro i hi
    refine Ev.s ?_
    have c : ¬ ((i : Int) < (l.length : Int)) := by omega
    simp only [laws_eqIntS.l0, if_neg c]
    rw [List.drop_of_length_le (by omega), List.drop_of_length_le (by omega)]
    exact Ev.now _
  | succ d ih =>
    intro i hi
    refine Ev.s ?_
    have c1 : ((i : Int) < (l.length : Int)) := by omega
    have c2 : (0 : Int) ≤ (i : Int) := by omega
    have c3 : ((i : Int) < (m.length : Int)) := by omega
    have e := wsucc i l.length (by omega) (by omega)
    simp only [laws_eqIntS.l0, if_pos c1, if_pos c2, if_pos c3, e]
    rw [drop_rd l i (by omega), drop_rd m i (by omega)]
    by_cases h : rd l (i : Int) = rd m (i : Int)
    · simp only [if_pos h]
      refine Ev.e (ih (i + 1) (by omega)) ?_
      simp [h]
    · simp only [if_neg h]
      have : (decide (rd l (i : Int) :: l.drop (i + 1) = rd m (i : Int) :: m.drop (i + 1))) = false := by
        apply decide_eq_false; intro h'; exact h (List.cons.inj h').1
      rw [this]; exact Ev.now _
theorem eqIntS_ev (l m : List Int) (hn : l.length ≤ 35184372088832) : Ev (fun k => laws_eqIntS.f k l m) (decide (l = m)) := by
  unfold laws_eqIntS.f
  by_cases h : l.length = m.length
  · have c : ((l.length : Int) = (m.length : Int)) := by omega
    simp only [if_pos c]
    exact eqIntS_l0 l m h hn l.length 0 (by omega)
  · have c : ¬ ((l.length : Int) = (m.length : Int)) := by omega
    simp only [if_neg c]
    have : decide (l = m) = false := by apply decide_eq_false; intro e; rw [e] at h; exact h rfl
    rw [this]; exact Ev.now _

/-- k, k + 1, .. -/
def upL : Int → Nat → List Int
  | _, 0 => []
  | k, n + 1 => k :: upL (k + 1) n
theorem upL_len : ∀ (n : Nat) (k : Int), (upL k n).length = n
  | 0, _ => rfl
  | n + 1, k => by simp only [upL, List.length_cons, upL_len n]
theorem upL_snoc : ∀ (n : Nat) (k : Int), upL k (n + 1) = upL k n ++ [k + n]
  | 0, k => by simp [upL]
  | n + 1, k => by
    rw [upL, upL_snoc n (k + 1), upL, List.cons_append, Int.natCast_succ, show k + 1 + (n : Int) = k + ((n : Int) + 1) from by omega]
theorem upL_rd : ∀ (n i : Nat) (k : Int), i < n → rd (upL k n) (i : Int) = k + i
  | n + 1, 0, k, _ => by simp [upL, rd_cons_zero]
  | n + 1, i + 1, k, h => by
    rw [upL, rd_cons_succ, upL_rd n i (k + 1) (by omega), Int.natCast_succ]; omega
theorem markIntS_ev (l : List Int) (hl : l.length ≤ 1000000) : Ev (fun k => laws_markIntS.f k l 1) (1 + (l.length : Int), upL 1 l.length) := by
  have key : ∀ (d i : Nat) (m : List Int), i + d = l.length → m.length = l.length → m.take i = upL 1 i → Ev (fun k => laws_markIntS.l0 k m (1 + (i : Int)) (i : Int)) (1 + (l.length : Int), upL 1 l.length) := by
    intro d
    induction d with
    | zero =>
      intro i m hi hm ht
      refine Ev.s ?_
      have c : ¬ ((i : Int) < (m.length : Int)) := by omega
      simp only [laws_markIntS.l0, if_neg c]
      rw [List.take_of_length_le (by omega)] at ht
      rw [ht, show i = l.length from by omega]
      exact Ev.now _
    | succ d ih =>
      intro i m hi hm ht
      refine Ev.s ?_
      have c1 : ((i : Int) < (m.length : Int)) := by omega
      have c2 : (0 : Int) ≤ (i : Int) := by omega
      have e := wsucc i l.length (by omega) (by omega)
      have e2 : wrap64 (1 + (i : Int) + 1) = 1 + ((i + 1 : Nat) : Int) := by rw [w64 (by omega) (by omega)]; omega
      simp only [laws_markIntS.l0, if_pos c1, if_pos c2, e, e2, Int.toNat_natCast]
      refine ih (i + 1) _ (by omega) (by simpa using hm) ?_
      rw [List.take_succ_eq_append_getElem (by simp; omega), List.take_set_of_le (by omega), ht, upL_snoc]
      simp
  have := key l.length 0 l (by omega) rfl rfl
  exact this
theorem heldIntS_ev (n : Nat) (hn : n ≤ 1000000) : Ev (fun k => laws_heldIntS.f k (upL 1 n) 1) (1 + (n : Int)) := by
  have key : ∀ (d i : Nat), i + d = n → Ev (fun k => laws_heldIntS.l0 k (upL 1 n) (1 + (i : Int)) (i : Int)) (1 + (n : Int)) := by
    intro d
    induction d with
    | zero =>
      intro i hi
      refine Ev.s ?_
      have c : ¬ ((i : Int) < ((upL 1 n).length : Int)) := by rw [upL_len]; omega
      simp only [laws_heldIntS.l0, if_neg c]
      rw [show i = n from by omega]
      exact Ev.now _
    | succ d ih =>
      intro i hi
      refine Ev.s ?_
      have c1 : ((i : Int) < ((upL 1 n).length : Int)) := by rw [upL_len]; omega
      have c2 : (0 : Int) ≤ (i : Int) := by omega
      have c3 := upL_rd n i 1 (by omega)
      have e := wsucc i n (by omega) (by omega)
      have e2 : wrap64 (1 + (i : Int) + 1) = 1 + ((i + 1 : Nat) : Int) := by rw [w64 (by omega) (by omega)]; omega
      simp only [laws_heldIntS.l0, if_pos c1, if_pos c2, c3, if_true, e, e2]
      exact ih (i + 1) (by omega)
  have := key n 0 (by omega)
  exact this

theorem l1Least_eq (a b : Int) : spec_l1Least.f a b = some (min a b) := by
  unfold spec_l1Least.f
  by_cases h : a < b
  · rw [if_pos h]; congr 1; omega
  · rw [if_neg h]; congr 1; omega

theorem mx_eq (a b : Int) : mx a b = max a b := by unfold mx; split <;> omega
theorem mn_eq (a b : Int) : mn a b = min a b := by unfold mn; split <;> omega

theorem slicesMin_ev (xs : List Int) (hl : 1 ≤ xs.length ∧ xs.length ≤ 1000000) : Ev (fun k => slices_Min_int_int.f k xs) (foldI (fun a _ x => min a x) (rd xs 0) 1 (xs.drop 1)) := by
  unfold slices_Min_int_int.f
  have c1 : ¬ ((xs.length : Int) < 1) := by omega
  have c2 : (0 : Int) < (xs.length : Int) := by omega
  simp only [if_neg c1, if_pos c2]
  refine loopL (g := fun k a i => slices_Min_int_int.l0 k xs a i) (fin := fun a => a) (step := fun a _ x => min a x) (fun _ _ => True) ?_ ?_ ?_ (xs.length - 1) (rd xs 0) 1 (by omega) trivial
  · intro k a i _ hi
    have c1 : ((i : Int) < (xs.length : Int)) := by omega
    have c2 : (0 : Int) ≤ (i : Int) := by omega
    have e := wsucc i xs.length hi (by omega)
    simp only [slices_Min_int_int.l0, if_pos c1, if_pos c2, e, mn_eq]
  · intro a i _ hi; trivial
  · intro k a _
    have c : ¬ ((xs.length : Int) < (xs.length : Int)) := by omega
    simp only [slices_Min_int_int.l0, if_neg c]

theorem HL_cons (s : ByteArray) : HL s = 0 :: (HL s).drop 1 := by
  have := drop_rd (HL s) 0 (by rw [HL_len]; omega)
  rw [List.drop_zero] at this
  have h0 : rd (HL s) ((0 : Nat) : Int) = 0 := hs_zero _ _ _
  rw [h0] at this
  exact this

theorem specLow_ev (s : ByteArray) (hn : s.size ≤ 40) : Ev (fun k => spec_paLow.f k s) (foldI (fun a _ x => min a x) 0 0 (HL s)) := by
  unfold spec_paLow.f
  refine Ev.bs (paHeights_ev s hn) ?_
  have hl := HL_len s
  generalize HL s = xs at hl
  refine loop0 (g := fun k a i => spec_paLow.l0 k a xs (xs.length : Int) i) (fin := fun a => a) (step := fun a _ x => min a x) (fun _ _ => True) ?_ ?_ ?_ 0 trivial
  · intro k a i _ hi
    have c1 : ((i : Int) < (xs.length : Int)) := by omega
    have c2 : (0 : Int) ≤ (i : Int) := by omega
    have e := wsucc i xs.length hi (by omega)
    simp only [spec_paLow.l0, if_pos c1, if_pos c2, e, l1Least_eq, Option.bind_some]
  · intro a i _ hi; trivial
  · intro k a _
    have c : ¬ ((xs.length : Int) < (xs.length : Int)) := by omega
    simp only [spec_paLow.l0, if_neg c]
theorem low_same (s : ByteArray) : foldI (fun a _ x => min a x) 0 0 (HL s) = foldI (fun a _ x => min a x) (rd (HL s) 0) 1 ((HL s).drop 1) := by
  have h0 : rd (HL s) 0 = 0 := hs_zero _ _ _
  rw [h0]
  conv => lhs; rw [HL_cons s]
  rfl

theorem foldI_min_le : ∀ (xs : List Int) (a : Int) (i : Nat), foldI (fun a _ x => min a x) a i xs ≤ a
  | [], a, _ => by simp [foldI]
  | x :: r, a, i => by
    simp only [foldI]
    have := foldI_min_le r (min a x) (i + 1)
    omega

theorem isGood_ev (s : ByteArray) (hn : s.size ≤ 40) : Ev (fun k => impl_isGood.f k s) (decide (foldI (fun a _ x => min a x) 0 0 (HL s) ≥ 0)) := by
  unfold impl_isGood.f
  refine Ev.bs (heights_ev s hn) ?_
  refine Ev.bs (slicesMin_ev (HL s) (by rw [HL_len]; omega)) (Ev.c ?_)
  rw [← low_same s]
  have := foldI_min_le (HL s) 0 0
  congr 1
  rw [Bool.eq_iff_iff, beq_iff_eq, decide_eq_true_eq]
  omega

/-- The places behind the first with a zero. -/
def rtS (a : List Int) (i : Nat) (x : Int) : List Int := if 0 < i ∧ x = 0 then a ++ [(i : Int)] else a
def RT (s : ByteArray) : List Int := foldI rtS [] 0 (HL s)
theorem rt_len : ∀ (xs : List Int) (a : List Int) (i : Nat), (foldI rtS a i xs).length ≤ a.length + xs.length
  | [], a, _ => by simp [foldI]
  | x :: r, a, i => by
    simp only [foldI, List.length_cons]
    have := rt_len r (rtS a i x) (i + 1)
    have h2 : (rtS a i x).length ≤ a.length + 1 := by unfold rtS; split <;> simp
    omega
theorem RT_len (s : ByteArray) (hn : s.size ≤ 40) : (RT s).length ≤ 41 := by
  have := rt_len (HL s) [] 0
  rw [HL_len] at this
  unfold RT
  simp at this
  omega
theorem returns_ev (s : ByteArray) (hn : s.size ≤ 40) : Ev (fun k => impl_returns.f k s) (RT s) := by
  unfold impl_returns.f RT
  refine Ev.bs (heights_ev s hn) ?_
  have hl := HL_len s
  generalize HL s = xs at hl
  refine loop0 (g := fun k a i => impl_returns.l0 k a xs (xs.length : Int) i) (fin := fun a => a) (step := rtS) (fun a i => a.length ≤ i) ?_ ?_ ?_ [] (by simp)
  · intro k a i hv hi
    have c1 : ((i : Int) < (xs.length : Int)) := by omega
    have c2 : (0 : Int) ≤ (i : Int) := by omega
    have c4 : a.length < 17592186044416 := by omega
    have e := wsucc i xs.length hi (by omega)
    by_cases z : (i : Int) > 0
    · by_cases x : rd xs (i : Int) = 0
      · simp only [impl_returns.l0, if_pos c1, if_pos c2, if_pos z, if_pos x, if_pos c4, e, rtS, if_pos (show 0 < i ∧ rd xs (i : Int) = 0 from ⟨by omega, x⟩)]
      · simp only [impl_returns.l0, if_pos c1, if_pos c2, if_pos z, if_neg x, e, rtS, if_neg (show ¬ (0 < i ∧ rd xs (i : Int) = 0) from fun h => x h.2)]
    · simp only [impl_returns.l0, if_pos c1, if_pos c2, if_neg z, e, rtS, if_neg (show ¬ (0 < i ∧ rd xs (i : Int) = 0) from fun h => z (by omega))]
  · intro a i hv hi
    unfold rtS
    split
    · rw [List.length_append]; simp; omega
    · omega
  · intro k a hv
    have c : ¬ ((xs.length : Int) < (xs.length : Int)) := by omega
    simp only [impl_returns.l0, if_neg c]

theorem rt_sorted (B : Int) : ∀ (xs a : List Int) (i : Nat), (i : Int) + xs.length ≤ B + 1 → a.Pairwise (· < ·) → (∀ x ∈ a, 0 < x ∧ x < (i : Int)) →
    (foldI rtS a i xs).Pairwise (· < ·) ∧ ∀ x ∈ foldI rtS a i xs, 0 < x ∧ x ≤ B
  | [], a, i, hB, hp, ha => ⟨hp, fun x hx => by have := ha x hx; rw [List.length_nil] at hB; omega⟩
  | x :: r, a, i, hB, hp, ha => by
    rw [List.length_cons] at hB
    simp only [foldI]
    unfold rtS
    by_cases c : 0 < i ∧ x = 0
    · rw [if_pos c]
      refine rt_sorted B r _ (i + 1) (by omega) (List.pairwise_append.2 ⟨hp, List.pairwise_singleton _ _, fun y hy z hz => ?_⟩) (fun y hy => ?_)
      · rw [List.mem_singleton] at hz
        have := ha y hy; omega
      · rcases List.mem_append.1 hy with hy | hy
        · have := ha y hy; omega
        · rw [List.mem_singleton] at hy; omega
    · rw [if_neg c]
      exact rt_sorted B r a (i + 1) (by omega) hp (fun y hy => by have := ha y hy; omega)
theorem RT_sorted (s : ByteArray) : (RT s).Pairwise (· < ·) ∧ ∀ x ∈ RT s, 0 < x ∧ x ≤ (s.size : Int) :=
  rt_sorted s.size (HL s) [] 0 (by rw [HL_len]; omega) List.Pairwise.nil (fun _ h => absurd h List.not_mem_nil)
/-- The pieces between places. -/
def CU (s : ByteArray) : List ByteArray → Int → List Int → List ByteArray
  | a, _, [] => a
  | a, p, x :: r => CU s (a ++ [s.extract p.toNat x.toNat]) x r
theorem CU_len (s : ByteArray) : ∀ (r : List Int) (a : List ByteArray) (p : Int), (CU s a p r).length = a.length + r.length
  | [], _, _ => rfl
  | x :: r, a, p => by rw [CU, CU_len s r, List.length_append, List.length_singleton, List.length_cons]; omega

theorem implCut_l0 (s : ByteArray) (P : List Int) (hP : P.length ≤ 41) (d : Nat) : ∀ (i : Nat) (a : List ByteArray) (p : Int), i + d = P.length → a.length = i → 0 ≤ p → (P.drop i).Pairwise (· < ·) → (∀ x ∈ P.drop i, p ≤ x ∧ x ≤ (s.size : Int)) →
    Ev (fun k => impl_CutAtReturns.l0 k s a p P (P.length : Int) (i : Int)) (CU s a p (P.drop i), true) := by
  induction d with
  | zero =>
    intro i a p hi ha hp0 hpw hb
    refine Ev.s ?_
    have c : ¬ ((i : Int) < (P.length : Int)) := by omega
    simp only [impl_CutAtReturns.l0, if_neg c]
    rw [List.drop_of_length_le (by omega)]
    exact Ev.now _
  | succ d ih =>
    intro i a p hi ha hp0 hpw hb
    rw [drop_rd P i (by omega)] at hpw hb ⊢
    have h1 := hb _ (List.mem_cons_self ..)
    have h2 := List.pairwise_cons.1 hpw
    have c1 : ((i : Int) < (P.length : Int)) := by omega
    have c2 : (0 : Int) ≤ (i : Int) := by omega
    have c6 : a.length < 8796093022208 := by omega
    have hn := ih (i + 1) (a ++ [s.extract p.toNat (rd P (i : Int)).toNat]) (rd P (i : Int)) (by omega) (by rw [List.length_append, List.length_singleton, ha]) (by omega) h2.2
      (fun x hx => ⟨Int.le_of_lt (h2.1 x hx), (hb x (List.mem_cons_of_mem _ hx)).2⟩)
    rw [CU]
    refine Ev.s ?_
    simp only [impl_CutAtReturns.l0, if_pos c1, if_pos c2, if_pos hp0, if_pos h1.1, if_pos h1.2, if_pos c6, wsucc i 41 (by omega) (by omega)]
    exact hn
theorem implCut_ev (s : ByteArray) (hn : s.size ≤ 1048576) : Ev (fun k => impl_CutAtReturns.f k s) (if GoodP s = true ∧ rd (HL s) (s.size : Int) = 0 then (CU s [] 0 (RT s), true) else ([], false)) := by
  unfold impl_CutAtReturns.f
  rw [isPath_eq s (by omega)]
  by_cases g : GoodP s = true
  · have h40 := (GoodP_iff g).1
    simp only [Option.bind_some, g, if_true, true_and]
    refine Ev.bs (end_ev s h40) ?_
    refine Ev.s ?_
    by_cases z : rd (HL s) (s.size : Int) = 0
    · rw [z]
      simp only [impl_CutAtReturns.j0, bne_self_eq_false, Bool.false_eq_true, if_false, if_true]
      refine Ev.bs (returns_ev s h40) ?_
      have h := RT_sorted s
      have := implCut_l0 s (RT s) (RT_len s h40) (RT s).length 0 [] 0 (by omega) rfl (Int.le_refl _) (by rw [List.drop_zero]; exact h.1) (fun x hx => by rw [List.drop_zero] at hx; have := h.2 x hx; omega)
      rw [List.drop_zero] at this
      exact this
    · have b : (rd (HL s) (s.size : Int) != 0) = true := by simpa using z
      simp only [impl_CutAtReturns.j0, b, if_true, if_neg z]
      exact Ev.now _
  · simp only [Option.bind_some, if_neg g]
    refine Ev.s ?_
    simp only [impl_CutAtReturns.j0, if_true, if_neg (show ¬ (GoodP s = true ∧ rd (HL s) (s.size : Int) = 0) from fun h => g h.1)]
    exact Ev.now _

/-- An ordered forest, by its first tree's children and the rest. -/
inductive F where
  | nil : F
  | node : F → F → F
namespace F
/-- Its path. -/
def word : F → List UInt8
  | nil => []
  | node a b => 85 :: (word a ++ 68 :: word b)
/-- How many trees. -/
def cnt : F → Int
  | nil => 0
  | node _ b => 1 + cnt b
/-- The degrees of its nodes. -/
def tl : F → List Int
  | nil => []
  | node a b => cnt a :: (tl a ++ tl b)
theorem tl_len : ∀ f : F, 2 * (tl f).length = (word f).length
  | nil => rfl
  | node a b => by
    have := tl_len a
    have := tl_len b
    simp only [tl, word, List.length_cons, List.length_append]
    omega
theorem cnt_bd : ∀ f : F, 0 ≤ cnt f ∧ cnt f ≤ ((word f).length : Int)
  | nil => by simp [cnt, word]
  | node a b => by
    have := cnt_bd b
    simp only [cnt, word, List.length_cons, List.length_append]
    omega
/-- Forests with steps down between them. -/
def joinD : F → List F → List UInt8
  | f, [] => word f
  | f, g :: gs => word f ++ 68 :: joinD g gs
theorem joinD_node (f g : F) (gs : List F) : joinD (node f g) gs = 85 :: (word f ++ 68 :: joinD g gs) := by
  cases gs with
  | nil => rfl
  | cons h hs => simp only [joinD, word, List.cons_append, List.append_assoc]
theorem parse : ∀ (l : List UInt8) (h : Nat), l.all stp = true → (∀ x ∈ hs st1 (h : Int) l, 0 ≤ x) → rd (hs st1 (h : Int) l) (l.length : Int) = 0 → ∃ f fs, fs.length = h ∧ l = joinD f fs
  | [], h, _, _, he => by
    have : (h : Int) = 0 := he
    exact ⟨nil, [], by simp; omega, rfl⟩
  | c :: r, h, hs1, hp, he => by
    simp only [List.all_cons, Bool.and_eq_true] at hs1
    have he' : rd (hs st1 ((h : Int) + st1 c) r) (r.length : Int) = 0 := by
      rw [← he]; simp only [hs, List.length_cons]; rw [rd_cons_succ]
    have hp' : ∀ x ∈ hs st1 ((h : Int) + st1 c) r, 0 ≤ x := fun x hx => hp x (List.mem_cons_of_mem _ hx)
    have hc : c = 85 ∨ c = 68 := by
      have := hs1.1
      unfold stp at this
      rw [Bool.or_eq_true, beq_iff_eq, beq_iff_eq] at this
      exact this
    rcases hc with rfl | rfl
    · have e : (h : Int) + st1 85 = ((h + 1 : Nat) : Int) := by rw [show st1 85 = 1 from rfl]; omega
      rw [e] at he' hp'
      obtain ⟨f, fs, hl, hr⟩ := parse r (h + 1) hs1.2 hp' he'
      cases fs with
      | nil => simp at hl
      | cons g gs =>
        refine ⟨node f g, gs, by simpa using hl, ?_⟩
        rw [joinD_node, hr]
        rfl
    · have h1 := hp' ((h : Int) + st1 68) (by cases r <;> exact List.mem_cons_self ..)
      rw [show st1 68 = -1 from rfl] at h1 hp' he'
      have e : (h : Int) + -1 = ((h - 1 : Nat) : Int) := by omega
      rw [e] at he' hp'
      obtain ⟨f, fs, hl, hr⟩ := parse r (h - 1) hs1.2 hp' he'
      refine ⟨nil, f :: fs, by rw [List.length_cons]; omega, ?_⟩
      rw [hr]
      rfl
end F

theorem foldI_min_mem : ∀ (xs : List Int) (a : Int) (i : Nat), ∀ x ∈ xs, foldI (fun a _ x => min a x) a i xs ≤ x
  | y :: r, a, i, x, hx => by
    simp only [foldI]
    rcases List.mem_cons.1 hx with rfl | hx
    · have := foldI_min_le r (min a x) (i + 1); omega
    · exact foldI_min_mem r (min a y) (i + 1) x hx
theorem F.ofGood (s : ByteArray) (g : GoodP s = true) (hm : foldI (fun a _ x => min a x) 0 0 (HL s) ≥ 0) (he : rd (HL s) (s.size : Int) = 0) : ∃ f : F, s.data.toList = f.word := by
  have hg := (GoodP_iff g).2
  have hx : ∀ x ∈ hs st1 ((0 : Nat) : Int) s.data.toList, 0 ≤ x := fun x hx => by
    have := foldI_min_mem (HL s) 0 0 x hx
    omega
  obtain ⟨f, fs, hl, h⟩ := F.parse s.data.toList 0 hg hx (by rw [bl]; exact he)
  have : fs = [] := List.eq_nil_of_length_eq_zero hl
  subst this
  exact ⟨f, h⟩

theorem rt_inner : ∀ (f : F) (acc : List Int) (i : Nat) (h : Int) (rest : List UInt8), 1 ≤ h →
    foldI rtS acc i (hs st1 h (f.word ++ rest)) = foldI rtS acc (i + f.word.length) (hs st1 h rest)
  | .nil, acc, i, h, rest, _ => rfl
  | .node a b, acc, i, h, rest, hh => by
    have e1 : (F.node a b).word ++ rest = 85 :: (a.word ++ (68 :: (b.word ++ rest))) := by simp only [F.word, List.cons_append, List.append_assoc]
    have s1 : rtS acc i h = acc := if_neg (fun x => by have := x.2; omega)
    rw [e1]
    simp only [hs, foldI, s1, show st1 85 = 1 from rfl]
    rw [rt_inner a acc (i + 1) (h + 1) _ (by omega)]
    have s2 : rtS acc (i + 1 + a.word.length) (h + 1) = acc := if_neg (fun x => by have := x.2; omega)
    simp only [hs, foldI, s2, show st1 68 = -1 from rfl]
    rw [show h + 1 + -1 = h from by omega, rt_inner b acc _ h rest hh]
    congr 1
    simp only [F.word, List.length_cons, List.length_append]
    omega
/-- Where its trees end. -/
def F.ends : Nat → F → List Int
  | _, .nil => []
  | i, .node a b => ((i + a.word.length + 2 : Nat) : Int) :: F.ends (i + a.word.length + 2) b
theorem rt_top : ∀ (f : F) (acc : List Int) (i : Nat), foldI rtS acc i (hs st1 0 f.word) = (rtS acc i 0) ++ F.ends i f
  | .nil, acc, i => by simp only [F.word, hs, foldI, F.ends, List.append_nil]
  | .node a b, acc, i => by
    simp only [F.word, hs, foldI, show st1 85 = 1 from rfl]
    rw [show (0 : Int) + 1 = 1 from rfl, rt_inner a _ (i + 1) 1 _ (Int.le_refl _)]
    have s2 : rtS (rtS acc i 0) (i + 1 + a.word.length) 1 = rtS acc i 0 := if_neg (fun x => by have := x.2; omega)
    simp only [hs, foldI, s2, show st1 68 = -1 from rfl]
    rw [show (1 : Int) + -1 = 0 from rfl, rt_top b]
    have s3 : rtS (rtS acc i 0) (i + 1 + a.word.length + 1) 0 = rtS acc i 0 ++ [((i + 1 + a.word.length + 1 : Nat) : Int)] := if_pos ⟨by omega, rfl⟩
    rw [s3, F.ends, show i + 1 + a.word.length + 1 = i + a.word.length + 2 from by omega, List.append_assoc]
    rfl
theorem RT_word (s : ByteArray) (f : F) (h : s.data.toList = f.word) : RT s = F.ends 0 f := by
  unfold RT HL
  rw [h, rt_top]
  rfl
/-- Its trees' pieces in a text. -/
def F.pcs (s : ByteArray) : Nat → F → List ByteArray
  | _, .nil => []
  | i, .node a b => s.extract i (i + a.word.length + 2) :: F.pcs s (i + a.word.length + 2) b
theorem CU_ends (s : ByteArray) : ∀ (f : F) (acc : List ByteArray) (i : Nat), CU s acc (i : Int) (F.ends i f) = acc ++ F.pcs s i f
  | .nil, acc, i => by simp only [F.ends, CU, F.pcs, List.append_nil]
  | .node a b, acc, i => by
    simp only [F.ends, CU, F.pcs]
    rw [CU_ends s b, Int.toNat_natCast, Int.toNat_natCast, List.append_assoc]
    rfl
theorem pcs_len (s : ByteArray) : ∀ (f : F) (i : Nat), ((F.pcs s i f).length : Int) = f.cnt
  | .nil, _ => rfl
  | .node a b, i => by
    simp only [F.pcs, F.cnt, List.length_cons]
    have := pcs_len s b (i + a.word.length + 2)
    omega
theorem word_end : ∀ (f : F) (h : Int), rd (hs st1 h f.word) (f.word.length : Int) = h
  | f, h => by
    have key : ∀ (f : F) (h : Int) (rest : List UInt8), rd (hs st1 h (f.word ++ rest)) (f.word.length : Int) = h ∧ (hs st1 h (f.word ++ rest)).drop f.word.length = hs st1 h rest := by
      intro f
      induction f with
      | nil => intro h rest; exact ⟨hs_zero _ _ _, rfl⟩
      | node a b iha ihb =>
        intro h rest
        have e1 : (F.node a b).word ++ rest = 85 :: (a.word ++ (68 :: (b.word ++ rest))) := by simp only [F.word, List.cons_append, List.append_assoc]
        have h2 : (hs st1 h ((F.node a b).word ++ rest)).drop (F.node a b).word.length = hs st1 h rest := by
          rw [e1, show (F.node a b).word.length = (a.word.length + (1 + b.word.length)) + 1 from by simp only [F.word, List.length_cons, List.length_append]; omega]
          simp only [hs, List.drop_succ_cons, show st1 85 = 1 from rfl]
          rw [← List.drop_drop, (iha (h + 1) _).2, Nat.add_comm 1]
          simp only [hs, List.drop_succ_cons, show st1 68 = -1 from rfl]
          rw [show h + 1 + -1 = h from by omega, (ihb h rest).2]
        refine ⟨?_, h2⟩
        have h3 : (hs st1 h ((F.node a b).word ++ rest))[(F.node a b).word.length]? = some h := by
          rw [← List.head?_drop, h2]
          cases rest <;> rfl
        unfold rd
        rw [Int.toNat_natCast, List.getD_eq_getElem?_getD, h3]
        rfl
    have := (key f h []).1
    rwa [List.append_nil] at this
theorem word_stp : ∀ f : F, f.word.all stp = true
  | .nil => rfl
  | .node a b => by
    simp only [F.word, List.all_cons, List.all_append, word_stp a, word_stp b, Bool.and_true, Bool.true_and]
    rfl
theorem implCut_word (s : ByteArray) (f : F) (h : s.data.toList = f.word) (hn : s.size ≤ 40) : Ev (fun k => impl_CutAtReturns.f k s) (F.pcs s 0 f, true) := by
  have g : GoodP s = true := by
    unfold GoodP
    rw [decide_eq_true hn, Bool.true_and, h]
    exact word_stp f
  have z : rd (HL s) (s.size : Int) = 0 := by
    unfold HL
    rw [← bl s, h]
    exact word_end f 0
  have := implCut_ev s (by omega)
  rw [if_pos ⟨g, z⟩, RT_word s f h] at this
  have e := CU_ends s f [] 0
  rw [List.nil_append] at e
  rw [← e]
  exact this

theorem rdOf_get (d : ByteArray) (l : List ByteArray) (i : Nat) (h : i < l.length) : rdOf d l (i : Int) = l[i] := by
  unfold rdOf
  rw [Int.toNat_natCast, List.getD_eq_getElem?_getD, List.getElem?_eq_getElem h]
  rfl

theorem rdOf_drop (d : ByteArray) (xs : List ByteArray) (j : Nat) (x : ByteArray) (r : List ByteArray) (h : xs.drop j = x :: r) : j < xs.length ∧ rdOf d xs (j : Int) = x ∧ xs.drop (j + 1) = r := by
  have hj : j < xs.length := by
    by_cases c : j < xs.length
    · exact c
    · rw [List.drop_of_length_le (by omega)] at h; cases h
  rw [List.drop_eq_getElem_cons hj] at h
  injection h with h1 h2
  exact ⟨hj, by rw [rdOf_get d xs j hj, h1], h2⟩
theorem ext_list (s : ByteArray) (i j : Nat) : (s.extract i j).data.toList = (s.data.toList.take j).drop i := by
  rw [ByteArray.data_extract, Array.toList_extract]
  simp only [List.extract_eq_take_drop, List.drop_take]
theorem drop_size (s : ByteArray) (i : Nat) (l : List UInt8) (hne : l ≠ []) (h : s.data.toList.drop i = l) : i + l.length = s.size := by
  have h1 : (s.data.toList.drop i).length = l.length := by rw [h]
  have h2 := List.length_pos_iff.2 hne
  rw [List.length_drop, bl] at h1
  omega
theorem pc_inner (s : ByteArray) (i : Nat) (a b : F) (h : s.data.toList.drop i = (F.node a b).word) :
    (s.extract i (i + a.word.length + 2)).size = a.word.length + 2 ∧ ((s.extract i (i + a.word.length + 2)).extract 1 (a.word.length + 1)).data.toList = a.word ∧ s.data.toList.drop (i + a.word.length + 2) = b.word := by
  have hs := drop_size s i _ (by simp [F.word]) h
  have hl : (F.node a b).word.length = a.word.length + 2 + b.word.length := by simp only [F.word, List.length_cons, List.length_append]; omega
  have e1 : (s.extract i (i + a.word.length + 2)).data.toList = 85 :: (a.word ++ [68]) := by
    rw [ext_list, List.drop_take, h, show i + a.word.length + 2 - i = (a.word.length + 1) + 1 from by omega]
    simp only [F.word, List.take_succ_cons]
    rw [List.take_append]
    simp
    exact List.take_of_length_le (by omega)
  refine ⟨?_, ?_, ?_⟩
  · rw [← bl, e1]; simp
  · rw [ext_list, e1, List.drop_take]
    simp
  · rw [show i + a.word.length + 2 = i + ((a.word.length + 1) + 1) from by omega, ← List.drop_drop, h]
    simp only [F.word, List.drop_succ_cons]
    rw [List.drop_append]
    simp
/-- The loop over the trees. -/
def LoopOk (f : F) : Prop := ∀ (s : ByteArray) (i j : Nat) (xs : List ByteArray) (out : List Int), (f = .nil ∨ s.data.toList.drop i = f.word) → s.size ≤ 40 → xs.drop j = F.pcs s i f → j ≤ xs.length → xs.length ≤ 1000 → out.length + f.tl.length ≤ 1000 →
  Ev (fun k => impl_unwalk.l0 k out xs (xs.length : Int) (j : Int)) (out ++ f.tl)
theorem unwalk_of (f : F) (h : LoopOk f) (s : ByteArray) (hs : s.data.toList = f.word) (hn : s.size ≤ 40) : Ev (fun k => impl_unwalk.f k s) (f.cnt :: f.tl) := by
  refine Ev.s ?_
  simp only [impl_unwalk.f]
  refine Ev.bs (implCut_word s f hs hn) ?_
  have hw := F.cnt_bd f
  have ht := F.tl_len f
  have hp := pcs_len s f 0
  have hl : f.word.length = s.size := by rw [← hs, bl]
  have := h s 0 0 (F.pcs s 0 f) [((F.pcs s 0 f).length : Int)] (.inr (by rw [List.drop_zero]; exact hs)) hn (by rw [List.drop_zero]) (Nat.zero_le _) (by omega) (by rw [List.length_singleton]; omega)
  rw [hp] at this ⊢
  exact this
theorem loopOk : ∀ f : F, LoopOk f := by
  intro f
  induction f with
  | nil =>
    intro s i j xs out _ hn hx hj hxl ho
    have : xs.length ≤ j := by
      have := congrArg List.length hx
      rw [List.length_drop] at this
      simp only [F.pcs, List.length_nil] at this
      omega
    refine Ev.s ?_
    have c : ¬ ((j : Int) < (xs.length : Int)) := by omega
    simp only [impl_unwalk.l0, if_neg c, F.tl, List.append_nil]
    exact Ev.now _
  | node a b iha ihb =>
    intro s i j xs out hw hn hx hj hxl ho
    have hw : s.data.toList.drop i = (F.node a b).word := by
      rcases hw with h | h
      · cases h
      · exact h
    obtain ⟨p1, p2, p3⟩ := pc_inner s i a b hw
    have hsz := drop_size s i _ (by simp [F.word]) hw
    have hl : (F.node a b).word.length = a.word.length + 2 + b.word.length := by simp only [F.word, List.length_cons, List.length_append]; omega
    obtain ⟨q1, q2, q3⟩ := rdOf_drop ByteArray.empty xs j _ _ hx
    have ta := F.tl_len a
    have hun := unwalk_of a iha _ p2 (by rw [← bl, p2]; omega)
    have htl : (F.node a b).tl.length = 1 + a.tl.length + b.tl.length := by simp only [F.tl, List.length_cons, List.length_append]; omega
    have hnext := ihb s (i + a.word.length + 2) (j + 1) xs (out ++ (a.cnt :: a.tl)) (.inr p3) hn q3 (by omega) hxl (by simp only [List.length_append, List.length_cons]; omega)
    have e : out ++ (a.cnt :: a.tl) ++ b.tl = out ++ (F.node a b).tl := by simp only [F.tl, List.append_assoc, List.cons_append]
    rw [e] at hnext
    refine Ev.s ?_
    have c1 : ((j : Int) < (xs.length : Int)) := by omega
    have c2 : (0 : Int) ≤ (j : Int) := by omega
    have c3 : (1 : Int) ≤ ((a.word.length + 1 : Nat) : Int) := by omega
    have c4 : ((a.word.length + 1 : Nat) : Int) ≤ ((a.word.length + 2 : Nat) : Int) := by omega
    have c5 : out.length + (a.cnt :: a.tl).length < 17592186044416 := by rw [List.length_cons]; omega
    have w1 := wsucc j xs.length (by omega) (by omega)
    have w2 : wrap64 (((a.word.length + 2 : Nat) : Int) - 1) = ((a.word.length + 1 : Nat) : Int) := by clear w1; rw [w64 (by omega) (by omega)]; omega
    simp only [impl_unwalk.l0, if_pos c1, if_pos c2, q2, p1, w2, if_pos c3, if_pos c4, Int.toNat_natCast]
    refine Ev.bs hun ?_
    simp only [if_pos c5, w1]
    exact hnext

theorem bt_drop (s : ByteArray) (i : Nat) (c : UInt8) (r : List UInt8) (h : s.data.toList.drop i = c :: r) : i < s.size ∧ bt s (i : Int) = (c.toNat : Int) ∧ s.data.toList.drop (i + 1) = r := by
  have hi : i < s.data.toList.length := by
    by_cases g : i < s.data.toList.length
    · exact g
    · rw [List.drop_of_length_le (by omega)] at h; cases h
  have hi' : i < s.size := by rwa [bl] at hi
  obtain ⟨h', hb⟩ := btl s i hi'
  rw [List.drop_eq_getElem_cons h'] at h
  injection h with h1 h2
  exact ⟨hi', by rw [hb, h1], h2⟩
theorem spec_word (s : ByteArray) (hn : s.size ≤ 40) (R : List Int × Bool) : ∀ (f : F) (i : Nat) (x4 base : List Int) (j : Int) (rest : List UInt8), s.data.toList.drop i = f.word ++ rest → 0 ≤ j → j < (x4.length : Int) →
    x4.length + f.word.length ≤ 1000 → base.length + f.word.length ≤ 1000 → 0 ≤ rd x4 j → rd x4 j + (f.word.length : Int) ≤ 1000 →
    Ev (fun k => spec_TreeOfPath.l0 k s (x4.set j.toNat (rd x4 j + f.cnt) ++ f.tl) (base ++ [j]) ((i + f.word.length : Nat) : Int)) R →
    Ev (fun k => spec_TreeOfPath.l0 k s x4 (base ++ [j]) (i : Int)) R := by
  intro f
  induction f with
  | nil =>
    intro i x4 base j rest _ h0 h1 _ _ _ _ hR
    have e : x4.set j.toNat (rd x4 j + F.nil.cnt) = x4 := by
      rw [show rd x4 j + F.nil.cnt = rd x4 j from by simp only [F.cnt]; omega]
      have := rd_get x4 j.toNat (by omega)
      rw [show ((j.toNat : Nat) : Int) = j from by omega] at this
      rw [this, List.set_getElem_self]
    rw [e] at hR
    simpa only [F.tl, F.word, List.append_nil, List.length_nil, Nat.add_zero] using hR
  | node a b iha ihb =>
    intro i x4 base j rest hd h0 h1 hx hb hr hr2 hR
    have hl : (F.node a b).word.length = a.word.length + 2 + b.word.length := by simp only [F.word, List.length_cons, List.length_append]; omega
    have ta := F.tl_len a
    have ca := F.cnt_bd a
    have e1 : (F.node a b).word ++ rest = 85 :: (a.word ++ (68 :: (b.word ++ rest))) := by simp only [F.word, List.cons_append, List.append_assoc]
    rw [e1] at hd
    obtain ⟨hi, hb1, hd1⟩ := bt_drop s i 85 _ hd
    have hd2 : s.data.toList.drop (i + 1 + a.word.length) = 68 :: (b.word ++ rest) := by
      rw [← List.drop_drop, hd1, List.drop_append_of_le_length (Nat.le_refl _), List.drop_length, List.nil_append]
    obtain ⟨hi2, hb2, hd3⟩ := bt_drop s (i + 1 + a.word.length) 68 _ hd2
    generalize hy : x4.set j.toNat (rd x4 j + 1) = y at *
    have hyl : y.length = x4.length := by rw [← hy, List.length_set]
    have hyr : rd y j = rd x4 j + 1 := by rw [← hy, rd_set x4 j j _ h0 h0 h1, if_pos rfl]
    -- after the child's part
    have hA := iha (i + 1) (y ++ [0]) (base ++ [j]) (x4.length : Int) (68 :: (b.word ++ rest)) hd1 (by omega) (by rw [List.length_append, List.length_singleton]; omega)
      (by rw [List.length_append, List.length_singleton]; omega) (by rw [List.length_append, List.length_singleton]; omega)
      (by rw [← hyl, rd_last]; omega) (by rw [← hyl, rd_last]; omega)
    rw [← hyl, rd_last, Int.toNat_natCast, set_last, Int.zero_add] at hA
    have hzl : (y ++ [a.cnt] ++ a.tl).length = x4.length + 1 + a.tl.length := by simp only [List.length_append, List.length_singleton, hyl]
    have hzr : rd (y ++ [a.cnt] ++ a.tl) j = rd x4 j + 1 := by
      rw [List.append_assoc, rd_app y _ j h0 (by omega), hyr]
    have hB := ihb (i + 1 + a.word.length + 1) (y ++ [a.cnt] ++ a.tl) base j rest hd3 h0 (by omega) (by omega) (by omega) (by omega) (by omega)
    rw [hzr] at hB
    have e2 : (y ++ [a.cnt] ++ a.tl).set j.toNat (rd x4 j + 1 + b.cnt) ++ b.tl = x4.set j.toNat (rd x4 j + (F.node a b).cnt) ++ (F.node a b).tl := by
      rw [List.append_assoc, List.set_append_left _ _ (by omega), ← hy, List.set_set]
      simp only [F.tl, F.cnt, List.append_assoc, List.cons_append, List.nil_append, Int.add_assoc]
    rw [e2, show i + 1 + a.word.length + 1 + b.word.length = i + (F.node a b).word.length from by omega] at hB
    have hB' := hB hR
    -- the step down
    have hD : Ev (fun k => spec_TreeOfPath.l0 k s (y ++ [a.cnt] ++ a.tl) (base ++ [j] ++ [((y.length : Nat) : Int)]) ((i + 1 + a.word.length : Nat) : Int)) R := by
      refine Ev.s ?_
      have c1 : ((i + 1 + a.word.length : Nat) : Int) < (s.size : Int) := by omega
      have c2 : (0 : Int) ≤ ((i + 1 + a.word.length : Nat) : Int) := by omega
      have c3 : bt s ((i + 1 + a.word.length : Nat) : Int) = 68 := hb2
      have c4 : (0 : Int) ≤ ((base ++ [j]).length : Int) := by omega
      have c5 : ((base ++ [j]).length : Int) ≤ ((base ++ [j] ++ [((y.length : Nat) : Int)]).length : Int) := by simp only [List.length_append]; omega
      have t := take_last (base ++ [j]) ((y.length : Nat) : Int)
      have w1 := last_len (base ++ [j]) ((y.length : Nat) : Int) (by rw [List.length_append, List.length_singleton]; omega)
      have w2 := wsucc (i + 1 + a.word.length) s.size (by omega) (by omega)
      simp only [spec_TreeOfPath.l0, if_pos c1, if_pos c2, if_pos c3, w1, if_pos c4, if_pos c5, Int.toNat_natCast, t, w2]
      exact hB'
    have hA' := hA hD
    -- the step up
    refine Ev.s ?_
    have c1 : (i : Int) < (s.size : Int) := by omega
    have c2 : (0 : Int) ≤ (i : Int) := by omega
    have c3 : ¬ (bt s (i : Int) = 68) := by rw [hb1]; decide
    have c4 : (0 : Int) ≤ (base.length : Int) := by omega
    have c5 : (base.length : Int) < ((base ++ [j]).length : Int) := by simp only [List.length_append, List.length_singleton]; omega
    have t := rd_last base j
    have c6 : (base ++ [j]).length < 17592186044416 := by rw [List.length_append, List.length_singleton]; omega
    have c7 : y.length < 17592186044416 := by omega
    have w0 := w64 (n := rd x4 j + 1) (by omega) (by omega)
    have w1 := last_len base j (by clear w0; omega)
    have w2 := wsucc i s.size hi (by clear w0 w1; omega)
    simp only [spec_TreeOfPath.l0, if_pos c1, if_pos c2, if_neg c3, w1, if_pos c4, if_pos c5, t, if_pos h0, if_pos h1, w0, Option.bind_some, if_pos c6, hy, if_pos c7, w2]
    rw [← hyl]
    exact hA'

theorem TreeOfPath_frame (s : ByteArray) (v : List Int) (b : Bool) (hv : v.length ≤ 1000000) (e1 : Ev (fun k => spec_TreeOfPath.f k s) (v, b)) (e2 : Ev (fun k => impl_TreeOfPath.f k s) (v, b)) :
    Ev (fun k => (spec_TreeOfPath.f k s).bind fun bt1 => ((impl_TreeOfPath.f k s).bind fun bt2 => ((laws_eqIntS.f k bt2.1 bt1.1).bind fun t => (if t = true then (laws_FnExactTreeOfPath.j0 k s bt1.1 bt1.2 bt2.1 (bt2.2 != bt1.2)) else (laws_FnExactTreeOfPath.j0 k s bt1.1 bt1.2 bt2.1 true))))) true := by
  have hh := heldIntS_ev v.length hv
  refine Ev.bs e1 (Ev.bs e2 (Ev.bs (eqIntS_ev v v (by omega)) ?_))
  simp only [decide_true, if_true, bne_self_eq_false]
  refine Ev.s ?_
  simp only [laws_FnExactTreeOfPath.j0, Bool.false_eq_true, if_false]
  refine Ev.bs (markIntS_ev v hv) (Ev.bs hh ?_)
  have c1 : ¬ (1 + (v.length : Int) < 0) := by omega
  simp only [if_neg c1, if_true]
  refine Ev.bs e2 (Ev.bs (eqIntS_ev v v (by omega)) ?_)
  simp only [decide_true, if_true, bne_self_eq_false]
  refine Ev.s ?_
  simp only [laws_FnExactTreeOfPath.j1, Bool.false_eq_true, if_false]
  refine Ev.bs hh ?_
  simp only [if_neg c1, if_true]
  exact Ev.now _

theorem FnExactTreeOfPath : laws_FnExactTreeOfPath.Pure := by
  intro s _
  refine Ev.rounds ?_
  unfold laws_FnExactTreeOfPath.f
  by_cases h : (s.size : Int) > 1048576
  · simp only [if_pos h]; exact Ev.now _
  simp only [if_neg h]
  generalize hc : (wrap64 ((wrap64 ((s.size : Int) / 2)) + 1)) = c
  have no1 : Ev (fun k => spec_TreeOfPath.j0 k s true) ([], false) := by
    refine Ev.s ?_
    simp only [spec_TreeOfPath.j0, if_true]
    exact Ev.now _
  by_cases g : GoodP s = true
  · have h40 := (GoodP_iff g).1
    by_cases m : foldI (fun a _ x => min a x) 0 0 (HL s) ≥ 0
    · have m' : ¬ (foldI (fun a _ x => min a x) 0 0 (HL s) < 0) := by omega
      by_cases z : rd (HL s) (s.size : Int) = 0
      · by_cases big : c > 16
        · refine TreeOfPath_frame s [] false (by simp) ?_ ?_
          · unfold spec_TreeOfPath.f
            refine Ev.bs (paGood_ev s (by omega)) ?_
            simp only [g, if_true]
            refine Ev.bs (specLow_ev s h40) ?_
            simp only [if_neg m']
            refine Ev.bs (paEnd_ev s h40) ?_
            simp only [z, if_true, hc, decide_eq_true big]
            exact no1
          · unfold impl_TreeOfPath.f
            rw [isPath_eq s (by omega)]
            simp only [Option.bind_some, g, if_true]
            refine Ev.bs (isGood_ev s h40) ?_
            simp only [decide_eq_true m, if_true]
            refine Ev.bs (end_ev s h40) ?_
            simp only [z, if_true, hc, if_pos big]
            exact Ev.now _
        · obtain ⟨f, hf⟩ := F.ofGood s g m z
          have hl : f.word.length = s.size := by rw [← hf, bl]
          have ht := F.tl_len f
          refine TreeOfPath_frame s (f.cnt :: f.tl) true (by rw [List.length_cons]; omega) ?_ ?_
          · unfold spec_TreeOfPath.f
            refine Ev.bs (paGood_ev s (by omega)) ?_
            simp only [g, if_true]
            refine Ev.bs (specLow_ev s h40) ?_
            simp only [if_neg m']
            refine Ev.bs (paEnd_ev s h40) ?_
            simp only [z, if_true, hc, decide_eq_false big]
            refine Ev.s ?_
            simp only [spec_TreeOfPath.j0, Bool.false_eq_true, if_false]
            refine spec_word s h40 _ f 0 [0] [] 0 [] (by rw [List.drop_zero, List.append_nil]; exact hf) (by omega) (by simp) (by rw [List.length_singleton]; omega) (by rw [List.length_nil]; omega) (by decide) (by rw [show rd [0] 0 = 0 from rfl]; omega) ?_
            refine Ev.s ?_
            have c : ¬ (((0 + f.word.length : Nat) : Int) < (s.size : Int)) := by omega
            simp only [spec_TreeOfPath.l0, if_neg c]
            refine Ev.c ?_
            rw [show rd [0] 0 + f.cnt = f.cnt from by rw [show rd [0] 0 = 0 from rfl]; omega]
            rfl
          · unfold impl_TreeOfPath.f
            rw [isPath_eq s (by omega)]
            simp only [Option.bind_some, g, if_true]
            refine Ev.bs (isGood_ev s h40) ?_
            simp only [decide_eq_true m, if_true]
            refine Ev.bs (end_ev s h40) ?_
            simp only [z, if_true, hc, if_neg big]
            exact Ev.bs (unwalk_of f (loopOk f) s hf h40) (Ev.now _)
      · refine TreeOfPath_frame s [] false (by simp) ?_ ?_
        · unfold spec_TreeOfPath.f
          refine Ev.bs (paGood_ev s (by omega)) ?_
          simp only [g, if_true]
          refine Ev.bs (specLow_ev s h40) ?_
          simp only [if_neg m']
          refine Ev.bs (paEnd_ev s h40) ?_
          simp only [if_neg z]
          exact no1
        · unfold impl_TreeOfPath.f
          rw [isPath_eq s (by omega)]
          simp only [Option.bind_some, g, if_true]
          refine Ev.bs (isGood_ev s h40) ?_
          simp only [decide_eq_true m, if_true]
          refine Ev.bs (end_ev s h40) ?_
          simp only [if_neg z]
          exact Ev.now _
    · have m' : foldI (fun a _ x => min a x) 0 0 (HL s) < 0 := by omega
      refine TreeOfPath_frame s [] false (by simp) ?_ ?_
      · unfold spec_TreeOfPath.f
        refine Ev.bs (paGood_ev s (by omega)) ?_
        simp only [g, if_true]
        refine Ev.bs (specLow_ev s h40) ?_
        simp only [if_pos m']
        exact no1
      · unfold impl_TreeOfPath.f
        rw [isPath_eq s (by omega)]
        simp only [Option.bind_some, g, if_true]
        refine Ev.bs (isGood_ev s h40) ?_
        simp only [decide_eq_false m, Bool.false_eq_true, if_false]
        exact Ev.now _
  · refine TreeOfPath_frame s [] false (by simp) ?_ ?_
    · unfold spec_TreeOfPath.f
      refine Ev.bs (paGood_ev s (by omega)) ?_
      simp only [if_neg g]
      exact no1
    · unfold impl_TreeOfPath.f
      rw [isPath_eq s (by omega)]
      simp only [Option.bind_some, if_neg g]
      exact Ev.now _

end Go.Proofs.YtdidmodedgiijaaDoor.Pure
