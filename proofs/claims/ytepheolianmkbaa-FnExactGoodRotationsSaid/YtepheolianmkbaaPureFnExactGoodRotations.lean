/- The plain law of the statement FnExactGoodRotations: what the program's function computes is what the reference's computes, for all arguments; no condition. -/
import Derived.Test.YtepheolianmkbaaPFnExactGoodRotationsx4
namespace Go.Proofs.Ytepheolianmkbaa.Pure
open Go.RowKit Go.Proofs.Ytepheolianmkbaa.PFnExactGoodRotations Go.Proofs.YtepheolianmkbaaW.PrintWords Go.Proofs.YtepheolianmkbaaW.PrintLast Go.Proofs.YtepheolianmkbaaW.PrintMore

theorem Ev.s {α : Type} {g : Nat → Option α} {r : α} (h : Ev (fun k => g (k + 1)) r) : Ev g r := by
  obtain ⟨K, hK⟩ := h
  refine ⟨K + 1, fun k hk => ?_⟩
  obtain ⟨m, rfl⟩ : ∃ m, k = m + 1 := ⟨k - 1, by omega⟩
  exact hK m (by omega)
theorem Ev.c {α : Type} {o : Option α} {r : α} (h : o = some r) : Ev (fun _ => o) r := ⟨0, fun _ _ => h⟩
theorem Ev.u {α : Type} {g : Nat → Option α} {r r' : α} (h : Ev g r) (h' : Ev g r') : r = r' := by
  obtain ⟨K, hK⟩ := h
  obtain ⟨K', hK'⟩ := h'
  have a := hK (max K K') (by omega)
  have b := hK' (max K K') (by omega)
  rw [a] at b
  exact Option.some.inj b
theorem Ev.e {α : Type} {g : Nat → Option α} {r r' : α} (h : Ev g r) (e : r = r') : Ev g r' := e ▸ h
theorem Ev.bs {α β : Type} {g : Nat → Option α} {f : Nat → α → Option β} {a : α} {r : β} (h : Ev g a) (k : Ev (fun n => f n a) r) : Ev (fun n => Option.bind (g n) (f n)) r := Ev.bind h k
theorem w64 {n : Int} (h : -9223372036854775808 ≤ n) (h' : n ≤ 9223372036854775807) : wrap64 n = n := by unfold wrap64; omega
theorem rd_set (l : List Int) (i j : Int) (v : Int) (hi : 0 ≤ i) (hj : 0 ≤ j) (hl : i < (l.length : Int)) : rd (l.set i.toNat v) j = if i = j then v else rd l j := by
  unfold rd
  rw [List.getD_eq_getElem?_getD, List.getD_eq_getElem?_getD, List.getElem?_set]
  by_cases e : i = j
  · subst e; rw [if_pos rfl, if_pos rfl, if_pos (by omega)]; rfl
  · rw [if_neg (by omega), if_neg e]

theorem in_eq (a b c : Int) : impl_in.f a b c = some (decide (b ≤ a ∧ a ≤ c)) := by
  unfold impl_in.f
  by_cases h : b ≤ a
  · rw [if_pos h]; simp [h]
  · rw [if_neg h]; simp [h]
theorem l1In_eq (a b c : Int) : spec_l1In.f a b c = some (decide (b ≤ a ∧ a ≤ c)) := by
  unfold spec_l1In.f
  by_cases h : a ≥ b
  · rw [if_pos h]; simp [h]
  · rw [if_neg h]; simp [h]

theorem drop_rd (l : List Int) (i : Nat) (h : i < l.length) : l.drop i = rd l (i : Int) :: l.drop (i + 1) := by
  rw [List.drop_eq_getElem_cons h]
  unfold rd
  rw [Int.toNat_natCast, List.getD_eq_getElem?_getD, List.getElem?_eq_getElem h]
  rfl
theorem rd_get (l : List Int) (i : Nat) (h : i < l.length) : rd l (i : Int) = l[i] := by
  unfold rd
  rw [Int.toNat_natCast, List.getD_eq_getElem?_getD, List.getElem?_eq_getElem h]
  rfl
theorem wsucc (i n : Nat) (h : i < n) (hn : n ≤ 9223372036854775807) : wrap64 ((i : Int) + 1) = ((i + 1 : Nat) : Int) := by
  rw [w64 (by omega) (by omega)]; omega
theorem rd_cons_succ (x : Int) (l : List Int) (i : Nat) : rd (x :: l) ((i + 1 : Nat) : Int) = rd l (i : Int) := by
  unfold rd
  simp only [Int.toNat_natCast, List.getD_cons_succ]
theorem rd_cons_zero (x : Int) (l : List Int) : rd (x :: l) 0 = x := rfl

theorem rd_take (l : List Int) (n i : Nat) (h : i < n) : rd (l.take n) (i : Int) = rd l (i : Int) := by
  unfold rd
  rw [Int.toNat_natCast, List.getD_eq_getElem?_getD, List.getD_eq_getElem?_getD, List.getElem?_take_of_lt h]

theorem toIntS_l0 (l : List Int) (hn : l.length ≤ 35184372088832) (d : Nat) : ∀ (i : Nat) (m : List Int), i + d = l.length → m.length = l.length → m.take i = l.take i →
    Ev (fun k => laws_toIntS.l0 k l m (i : Int)) l := by
  induction d with
  | zero =>
    intro i m hi hm ht
    refine Ev.s ?_
    have c : ¬ ((i : Int) < (l.length : Int)) := by omega
    simp only [laws_toIntS.l0, if_neg c]
    rw [List.take_of_length_le (by omega), List.take_of_length_le (by omega)] at ht
    rw [ht]; exact Ev.now _
  | succ d ih =>
    intro i m hi hm ht
    refine Ev.s ?_
    have c1 : ((i : Int) < (l.length : Int)) := by omega
    have c2 : (0 : Int) ≤ (i : Int) := by omega
    have c3 : ((i : Int) < (m.length : Int)) := by omega
    have e := wsucc i l.length (by omega) (by omega)
    simp only [laws_toIntS.l0, if_pos c1, if_pos c2, if_pos c3, e, Int.toNat_natCast]
    refine ih (i + 1) _ (by omega) (by simpa using hm) ?_
    rw [rd_get l i (by omega)]
    rw [List.take_succ_eq_append_getElem (by simp; omega), List.take_set_of_le (by omega), ht, List.take_succ_eq_append_getElem (by omega)]
    simp
theorem toIntS_ev (l : List Int) (hn : l.length ≤ 35184372088832) : Ev (fun k => laws_toIntS.f k l) l := by
  unfold laws_toIntS.f
  have c1 : (0 : Int) ≤ (l.length : Int) := by omega
  have c2 : ((l.length : Int) : Int).toNat ≤ 35184372088832 := by omega
  simp only [if_pos c1, if_pos c2]
  exact toIntS_l0 l hn l.length 0 _ (by omega) (by simp) (by simp)

theorem eqIntS_l0 (l m : List Int) (hl : l.length = m.length) (hn : l.length ≤ 35184372088832) (d : Nat) : ∀ (i : Nat), i + d = l.length →
    Ev (fun k => laws_eqIntS.l0 k l m (i : Int)) (decide (l.drop i = m.drop i)) := by
  induction d with
  | zero =>
    intro i hi
    refine Ev.s ?_
    have c : ¬ ((i : Int) < (l.length : Int)) := by omega
    simp only [laws_eqIntS.l0, if_neg c]
    rw [List.drop_of_length_le (by omega), List.drop_of_length_le (by omega)]
    exact Ev.now _
  | succ d ih =>
    intro i hi
    refine Ev.s ?_
    have c1 : ((i : Int) < (l.length : Int)) := by omega
    have c2 : (0 : Int) ≤ (i : Int) := by omega
    have c3 : ((i : Int) < (m.length : Int)) := by omega
    have e := wsucc i l.length (by omega) (by omega)
    simp only [laws_eqIntS.l0, if_pos c1, if_pos c2, if_pos c3, e]
    rw [drop_rd l i (by omega), drop_rd m i (by omega)]
    by_cases h : rd l (i : Int) = rd m (i : Int)
    · simp only [if_pos h]
      refine Ev.e (ih (i + 1) (by omega)) ?_
      simp [h]
    · simp only [if_neg h]
      have : (decide (rd l (i : Int) :: l.drop (i + 1) = rd m (i : Int) :: m.drop (i + 1))) = false := by
        apply decide_eq_false; intro h'; exact h (List.cons.inj h').1
      rw [this]; exact Ev.now _
theorem eqIntS_ev (l m : List Int) (hn : l.length ≤ 35184372088832) : Ev (fun k => laws_eqIntS.f k l m) (decide (l = m)) := by
  unfold laws_eqIntS.f
  by_cases h : l.length = m.length
  · have c : ((l.length : Int) = (m.length : Int)) := by omega
    simp only [if_pos c]
    exact eqIntS_l0 l m h hn l.length 0 (by omega)
  · have c : ¬ ((l.length : Int) = (m.length : Int)) := by omega
    simp only [if_neg c]
    have : decide (l = m) = false := by apply decide_eq_false; intro e; rw [e] at h; exact h rfl
    rw [this]; exact Ev.now _

/-- Are these degrees? -/
def DegB (l : List Int) : Bool := decide (1 ≤ l.length ∧ l.length ≤ 16) && l.all (fun x => decide (0 ≤ x ∧ x ≤ 16))
theorem l1All_l0 (lo hi : Int) (l : List Int) (hn : l.length ≤ 35184372088832) (d : Nat) : ∀ (i : Nat), i + d = l.length →
    Ev (fun k => spec_l1All.l0 k lo hi l (l.length : Int) (i : Int)) ((l.drop i).all (fun x => decide (lo ≤ x ∧ x ≤ hi))) := by
  induction d with
  | zero =>
    intro i h
    refine Ev.s ?_
    have c : ¬ ((i : Int) < (l.length : Int)) := by omega
    simp only [spec_l1All.l0, if_neg c]
    rw [List.drop_of_length_le (by omega)]
    exact Ev.now _
  | succ d ih =>
    intro i h
    refine Ev.s ?_
    have c1 : ((i : Int) < (l.length : Int)) := by omega
    have c2 : (0 : Int) ≤ (i : Int) := by omega
    have e := wsucc i l.length (by omega) (by omega)
    rw [drop_rd l i (by omega)]
    simp only [spec_l1All.l0, if_pos c1, if_pos c2, e, l1In_eq, Option.bind_some, decide_eq_true_eq, List.all_cons]
    by_cases h' : lo ≤ rd l (i : Int) ∧ rd l (i : Int) ≤ hi
    · simp only [if_pos h', decide_eq_true h', Bool.true_and]
      exact ih (i + 1) (by omega)
    · simp only [if_neg h', decide_eq_false h', Bool.false_and]
      exact Ev.now _
theorem l1All_ev (lo hi : Int) (l : List Int) (hn : l.length ≤ 35184372088832) : Ev (fun k => spec_l1All.f k l lo hi) (l.all (fun x => decide (lo ≤ x ∧ x ≤ hi))) := by
  unfold spec_l1All.f
  exact l1All_l0 lo hi l hn l.length 0 (by omega)
theorem cyGood_ev (l : List Int) (hn : l.length ≤ 35184372088832) : Ev (fun k => spec_cyGood.f k l) (DegB l) := by
  unfold spec_cyGood.f DegB
  simp only [l1In_eq, Option.bind_some, decide_eq_true_eq]
  by_cases h : 1 ≤ l.length ∧ l.length ≤ 16
  · simp only [if_pos (show (1 : Int) ≤ (l.length : Int) ∧ (l.length : Int) ≤ 16 from by omega), decide_eq_true h, Bool.true_and]
    exact Ev.bs (l1All_ev 0 16 l hn) (Ev.now _)
  · simp only [if_neg (show ¬ ((1 : Int) ≤ (l.length : Int) ∧ (l.length : Int) ≤ 16) from by omega), decide_eq_false h, Bool.false_and]
    exact Ev.now _
theorem isDegrees1_eq (x : Int) : impl_IsDegrees_1.f x = some (!decide (0 ≤ x ∧ x ≤ 16)) := by
  unfold impl_IsDegrees_1.f; rw [in_eq]; rfl
theorem indexFunc_l0 (l : List Int) (hn : l.length ≤ 35184372088832) (d : Nat) : ∀ (i : Nat), i + d = l.length →
    ∃ r : Int, Ev (fun k => slices_IndexFunc_int_int.l0 k l (l.length : Int) (i : Int)) r ∧ decide (r ≥ 0) = !(l.drop i).all (fun x => decide (0 ≤ x ∧ x ≤ 16)) := by
  induction d with
  | zero =>
    intro i h
    refine ⟨-1, Ev.s ?_, by rw [List.drop_of_length_le (by omega)]; rfl⟩
    have c : ¬ ((i : Int) < (l.length : Int)) := by omega
    simp only [slices_IndexFunc_int_int.l0, if_neg c]
    exact Ev.now _
  | succ d ih =>
    intro i h
    have c1 : ((i : Int) < (l.length : Int)) := by omega
    have c2 : (0 : Int) ≤ (i : Int) := by omega
    have e := wsucc i l.length (by omega) (by omega)
    rw [drop_rd l i (by omega)]
    by_cases h' : 0 ≤ rd l (i : Int) ∧ rd l (i : Int) ≤ 16
    · obtain ⟨r, hr, hd⟩ := ih (i + 1) (by omega)
      refine ⟨r, Ev.s ?_, by simp only [List.all_cons, decide_eq_true h', Bool.true_and, hd]⟩
      simp only [slices_IndexFunc_int_int.l0, if_pos c1, if_pos c2, e, isDegrees1_eq, Option.bind_some, decide_eq_true h', Bool.not_true, Bool.false_eq_true, if_false]
      exact hr
    · refine ⟨i, Ev.s ?_, by simp only [List.all_cons, decide_eq_false h', Bool.false_and, Bool.not_false]; exact decide_eq_true (by omega)⟩
      simp only [slices_IndexFunc_int_int.l0, if_pos c1, if_pos c2, e, isDegrees1_eq, Option.bind_some, decide_eq_false h', Bool.not_false, if_true]
      exact Ev.now _
theorem isDegrees_ev (l : List Int) (hn : l.length ≤ 35184372088832) : Ev (fun k => impl_IsDegrees.f k l) (DegB l) := by
  unfold impl_IsDegrees.f DegB slices_ContainsFunc_int_int.f slices_IndexFunc_int_int.f
  simp only [in_eq, Option.bind_some, decide_eq_true_eq]
  by_cases h : 1 ≤ l.length ∧ l.length ≤ 16
  · simp only [if_pos (show (1 : Int) ≤ (l.length : Int) ∧ (l.length : Int) ≤ 16 from by omega), decide_eq_true h, Bool.true_and]
    obtain ⟨r, hr, hd⟩ := indexFunc_l0 l hn l.length 0 (by omega)
    rw [List.drop_zero] at hd
    refine Ev.bs (a := decide (r ≥ 0)) (Ev.bs hr (Ev.now _)) (Ev.c ?_)
    rw [hd]; simp
  · simp only [if_neg (show ¬ ((1 : Int) ≤ (l.length : Int) ∧ (l.length : Int) ≤ 16) from by omega), decide_eq_false h, Bool.false_and]
    exact Ev.now _

/-- The excess from a place on. -/
def sumL : List Int → Int
  | [] => 0
  | x :: r => x + sumL r
theorem sumL_append (l m : List Int) : sumL (l ++ m) = sumL l + sumL m := by
  induction l with
  | nil => simp [sumL]
  | cons x r ih => simp only [List.cons_append, sumL, ih]; omega
theorem DegB_iff {l : List Int} (h : DegB l = true) : (1 ≤ l.length ∧ l.length ≤ 16) ∧ ∀ x ∈ l, 0 ≤ x ∧ x ≤ 16 := by
  unfold DegB at h
  simp only [Bool.and_eq_true, decide_eq_true_eq, List.all_eq_true] at h
  exact ⟨h.1, h.2⟩
theorem sumL_bd (l : List Int) (h : ∀ x ∈ l, 0 ≤ x ∧ x ≤ 16) : 0 ≤ sumL l ∧ sumL l ≤ 16 * (l.length : Int) := by
  induction l with
  | nil => simp [sumL]
  | cons x r ih =>
    have := ih (fun y hy => h y (List.mem_cons_of_mem _ hy))
    have hx := h x List.mem_cons_self
    simp only [sumL, List.length_cons]; omega
theorem deg_drop {l : List Int} (h : DegB l = true) (i : Nat) : 0 ≤ sumL (l.drop i) ∧ sumL (l.drop i) ≤ 256 := by
  obtain ⟨h1, h2⟩ := DegB_iff h
  have := sumL_bd (l.drop i) (fun x hx => h2 x (List.mem_of_mem_drop hx))
  rw [List.length_drop] at this
  omega
theorem deg_rd {l : List Int} (h : DegB l = true) (i : Nat) (hi : i < l.length) : 0 ≤ rd l (i : Int) ∧ rd l (i : Int) ≤ 16 := by
  rw [rd_get l i hi]
  exact (DegB_iff h).2 _ (List.getElem_mem _)
/-- The excess of degrees. -/
def Exc (l : List Int) : Int := (l.length : Int) - sumL l
theorem cyExcess_ev (l : List Int) (h : DegB l = true) : Ev (fun k => spec_cyExcess.f k l) (Exc l) := by
  have hl := (DegB_iff h).1
  have key : ∀ (d i : Nat) (x : Int), i + d = l.length → -1000 ≤ x - sumL (l.drop i) ∧ x ≤ 1000 → Ev (fun k => spec_cyExcess.l0 k x l (l.length : Int) (i : Int)) (x - sumL (l.drop i)) := by
    intro d
    induction d with
    | zero =>
      intro i x hi hx
      refine Ev.s ?_
      have c : ¬ ((i : Int) < (l.length : Int)) := by omega
      simp only [spec_cyExcess.l0, if_neg c]
      rw [List.drop_of_length_le (by omega)]
      exact Ev.c (by simp [sumL])
    | succ d ih =>
      intro i x hi hx
      have hr := deg_rd h i (by omega)
      have h0 := deg_drop h (i + 1)
      rw [drop_rd l i (by omega), sumL] at hx ⊢
      refine Ev.s ?_
      have c1 : ((i : Int) < (l.length : Int)) := by omega
      have c2 : (0 : Int) ≤ (i : Int) := by omega
      have e := wsucc i l.length (by omega) (by omega)
      have e2 : wrap64 (x - rd l (i : Int)) = x - rd l (i : Int) := w64 (by omega) (by omega)
      simp only [spec_cyExcess.l0, if_pos c1, if_pos c2, e, e2]
      exact Ev.e (ih (i + 1) (x - rd l (i : Int)) (by omega) (by omega)) (by omega)
  unfold spec_cyExcess.f Exc
  have h0 := deg_drop h 0
  have := key l.length 0 (l.length : Int) (by omega) (by omega)
  rwa [List.drop_zero] at this
theorem excess_ev (l : List Int) (h : DegB l = true) : Ev (fun k => impl_excess.f k l) (Exc l) := by
  have hl := (DegB_iff h).1
  have key : ∀ (d i : Nat) (x : Int), i + d = l.length → -1000 ≤ x - sumL (l.drop i) ∧ x ≤ 1000 → Ev (fun k => impl_excess.l0 k x l (l.length : Int) (i : Int)) (x - sumL (l.drop i)) := by
    intro d
    induction d with
    | zero =>
      intro i x hi hx
      refine Ev.s ?_
      have c : ¬ ((i : Int) < (l.length : Int)) := by omega
      simp only [impl_excess.l0, if_neg c]
      rw [List.drop_of_length_le (by omega)]
      exact Ev.c (by simp [sumL])
    | succ d ih =>
      intro i x hi hx
      have hr := deg_rd h i (by omega)
      have h0 := deg_drop h (i + 1)
      rw [drop_rd l i (by omega), sumL] at hx ⊢
      refine Ev.s ?_
      have c1 : ((i : Int) < (l.length : Int)) := by omega
      have c2 : (0 : Int) ≤ (i : Int) := by omega
      have e := wsucc i l.length (by omega) (by omega)
      have e2 : wrap64 (x - rd l (i : Int)) = x - rd l (i : Int) := w64 (by omega) (by omega)
      simp only [impl_excess.l0, if_pos c1, if_pos c2, e, e2]
      exact Ev.e (ih (i + 1) (x - rd l (i : Int)) (by omega) (by omega)) (by omega)
  unfold impl_excess.f Exc
  have h0 := deg_drop h 0
  have := key l.length 0 (l.length : Int) (by omega) (by omega)
  rwa [List.drop_zero] at this

/-- No sum of the first ones is -r or less. -/
def forB (r : Int) : Int → List Int → Bool
  | _, [] => true
  | s, x :: t => if s + (x - 1) ≤ -r then false else forB r (s + (x - 1)) t
/-- Are degrees a forest? -/
def ForB (l : List Int) : Bool := decide (Exc l ≥ 1) && forB (Exc l) 0 (l.take (l.length - 1))
theorem exc_bd {l : List Int} (h : DegB l = true) : -1000 ≤ Exc l ∧ Exc l ≤ 16 := by
  have h1 := (DegB_iff h).1
  have h0 := deg_drop h 0
  rw [List.drop_zero] at h0
  unfold Exc
  omega
theorem fo_wrap (s x : Int) (i : Nat) (hi : i ≤ 16) (hs : -(i : Int) ≤ s ∧ s ≤ 16 * (i : Int)) (hx : 0 ≤ x ∧ x ≤ 16) : wrap64 (x - 1) = x - 1 ∧ wrap64 (s + (x - 1)) = s + (x - 1) :=
  ⟨w64 (by omega) (by omega), w64 (by omega) (by omega)⟩
theorem fo_inv (s x : Int) (i : Nat) (hs : -(i : Int) ≤ s ∧ s ≤ 16 * (i : Int)) (hx : 0 ≤ x ∧ x ≤ 16) : -((i + 1 : Nat) : Int) ≤ s + (x - 1) ∧ s + (x - 1) ≤ 16 * ((i + 1 : Nat) : Int) := by omega
theorem isForest_ev (l : List Int) (h : DegB l = true) : Ev (fun k => impl_isForest.f k l) (ForB l) := by
  have hl := (DegB_iff h).1
  have hr := exc_bd h
  unfold impl_isForest.f ForB
  refine Ev.bs (excess_ev l h) ?_
  have e1 : wrap64 ((l.length : Int) - 1) = ((l.length - 1 : Nat) : Int) := by rw [w64 (by omega) (by omega)]; omega
  have c1 : (0 : Int) ≤ ((l.length - 1 : Nat) : Int) := by omega
  have c2 : ((l.length - 1 : Nat) : Int) ≤ (l.length : Int) := by omega
  simp only [e1, if_pos c1, if_pos c2, Int.toNat_natCast]
  generalize hr' : Exc l = r at hr
  have hb : ∀ i : Nat, i < (l.take (l.length - 1)).length → 0 ≤ rd (l.take (l.length - 1)) (i : Int) ∧ rd (l.take (l.length - 1)) (i : Int) ≤ 16 := by
    intro i hi
    rw [List.length_take] at hi
    rw [rd_take _ _ _ (by omega)]
    exact deg_rd h i (by omega)
  have hn : (l.take (l.length - 1)).length ≤ 16 := by rw [List.length_take]; omega
  generalize l.take (l.length - 1) = m at hb hn
  clear hr' e1 c1 c2 hl h
  have key : ∀ (d i : Nat) (s : Int), i + d = m.length → -(i : Int) ≤ s ∧ s ≤ 16 * (i : Int) → Ev (fun k => impl_isForest.l0 k r s m (m.length : Int) (i : Int)) (decide (r ≥ 1) && forB r s (m.drop i)) := by
    intro d
    induction d with
    | zero =>
      intro i s hi hs
      refine Ev.s ?_
      have c : ¬ ((i : Int) < (m.length : Int)) := by omega
      simp only [impl_isForest.l0, if_neg c]
      rw [List.drop_of_length_le (by omega)]
      exact Ev.c (by simp [forB])
    | succ d ih =>
      intro i s hi hs
      refine Ev.s ?_
      have hx := hb i (by omega)
      have c1 : ((i : Int) < (m.length : Int)) := by omega
      have c2 : (0 : Int) ≤ (i : Int) := by omega
      have e := wsucc i m.length (by omega) (by omega)
      obtain ⟨w1, w2⟩ := fo_wrap s (rd m (i : Int)) i (by omega) hs hx
      have iv := fo_inv s (rd m (i : Int)) i hs hx
      have w3 : wrap64 (-r) = -r := w64 (by omega) (by omega)
      rw [drop_rd m i (by omega)]
      by_cases t : s + (rd m (i : Int) - 1) ≤ -r
      · simp only [impl_isForest.l0, if_pos c1, if_pos c2, w1, w2, w3, if_pos t, forB, Bool.and_false]
        exact Ev.now _
      · simp only [impl_isForest.l0, if_pos c1, if_pos c2, w1, w2, w3, if_neg t, forB, e]
        exact ih (i + 1) _ (by omega) iv
  have := key m.length 0 0 (by omega) (by omega)
  rwa [List.drop_zero] at this
theorem cyForest_ev (l : List Int) (h : DegB l = true) : Ev (fun k => spec_cyForest.f k l) (ForB l) := by
  have hl := (DegB_iff h).1
  have hr := exc_bd h
  unfold spec_cyForest.f ForB
  refine Ev.bs (cyExcess_ev l h) ?_
  generalize hr' : Exc l = r at hr
  by_cases r1 : r < 1
  · simp only [if_pos r1]
    rw [decide_eq_false (by omega), Bool.false_and]
    exact Ev.now _
  simp only [if_neg r1]
  rw [decide_eq_true (by omega), Bool.true_and]
  have key : ∀ (d i : Nat) (s : Int), i + d = l.length → -(i : Int) ≤ s ∧ s ≤ 16 * (i : Int) → Ev (fun k => spec_cyForest.l0 k l r s l (l.length : Int) (i : Int)) (forB r s ((l.take (l.length - 1)).drop i)) := by
    intro d
    induction d with
    | zero =>
      intro i s hi hs
      refine Ev.s ?_
      have c : ¬ ((i : Int) < (l.length : Int)) := by omega
      simp only [spec_cyForest.l0, if_neg c]
      rw [List.drop_of_length_le (by rw [List.length_take]; omega)]
      exact Ev.now _
    | succ d ih =>
      intro i s hi hs
      refine Ev.s ?_
      have hx := deg_rd h i (by omega)
      have c1 : ((i : Int) < (l.length : Int)) := by omega
      have c2 : (0 : Int) ≤ (i : Int) := by omega
      have e := wsucc i l.length (by omega) (by omega)
      obtain ⟨w1, w2⟩ := fo_wrap s (rd l (i : Int)) i (by omega) hs hx
      have iv := fo_inv s (rd l (i : Int)) i hs hx
      have w3 : wrap64 (-r) = -r := w64 (by omega) (by omega)
      have hi' := ih (i + 1) (s + (rd l (i : Int) - 1)) (by omega) iv
      by_cases last : i + 1 < l.length
      · have c4 : ((i + 1 : Nat) : Int) < (l.length : Int) := by omega
        rw [drop_rd (l.take (l.length - 1)) i (by rw [List.length_take]; omega), rd_take _ _ _ (by omega)]
        by_cases t : s + (rd l (i : Int) - 1) ≤ -r
        · simp only [spec_cyForest.l0, if_pos c1, if_pos c2, w1, w2, w3, if_pos t, e, if_pos c4, forB]
          exact Ev.now _
        · simp only [spec_cyForest.l0, if_pos c1, if_pos c2, w1, w2, w3, if_neg t, e, forB]
          exact hi'
      · have c4 : ¬ ((i + 1 : Nat) : Int) < (l.length : Int) := by omega
        rw [List.drop_of_length_le (by rw [List.length_take]; omega)]
        rw [List.drop_of_length_le (by rw [List.length_take]; omega)] at hi'
        by_cases t : s + (rd l (i : Int) - 1) ≤ -r
        · simp only [spec_cyForest.l0, if_pos c1, if_pos c2, w1, w2, w3, if_pos t, e, if_neg c4]
          exact hi'
        · simp only [spec_cyForest.l0, if_pos c1, if_pos c2, w1, w2, w3, if_neg t, e]
          exact hi'
  have := key l.length 0 0 (by omega) (by omega)
  rwa [List.drop_zero] at this

/-- A rotation. -/
def rot (l : List Int) (i : Nat) : List Int := l.drop i ++ l.take i
theorem rot_len (l : List Int) (i : Nat) (h : i ≤ l.length) : (rot l i).length = l.length := by
  unfold rot
  rw [List.length_append, List.length_drop, List.length_take]; omega
theorem rot_deg (l : List Int) (i : Nat) (h : i ≤ l.length) (hd : DegB l = true) : DegB (rot l i) = true := by
  obtain ⟨h1, h2⟩ := DegB_iff hd
  unfold DegB
  rw [rot_len l i h, decide_eq_true h1, Bool.true_and, List.all_eq_true]
  intro x hx
  unfold rot at hx
  rcases List.mem_append.1 hx with hx | hx
  · exact decide_eq_true (h2 x (List.mem_of_mem_drop hx))
  · exact decide_eq_true (h2 x (List.mem_of_mem_take hx))
theorem concat_ev (a b : List Int) (ha : a.length ≤ 1000) (hb : b.length ≤ 1000) : Ev (fun k => slices_Concat_int_int.f k [a, b]) (a ++ b) := by
  unfold slices_Concat_int_int.f
  have r0 : rd_L1 [a, b] 0 = a := rfl
  have r1 : rd_L1 [a, b] 1 = b := rfl
  have w1 : wrap64 (0 + (a.length : Int)) = (a.length : Int) := by rw [w64 (by omega) (by omega)]; omega
  have w2 : wrap64 ((a.length : Int) + (b.length : Int)) = ((a.length + b.length : Nat) : Int) := by clear w1; rw [w64 (by omega) (by omega)]; omega
  have w3 : wrap64 ((0 : Int) + 1) = 1 := by clear w1 w2; rw [w64 (by omega) (by omega)]; rfl
  have w4 : wrap64 ((1 : Int) + 1) = 2 := by clear w1 w2 w3; rw [w64 (by omega) (by omega)]; rfl
  have l2 : (([a, b] : List (List Int)).length : Int) = 2 := rfl
  have c1 : (0 : Int) < 2 := by decide
  have c2 : (0 : Int) ≤ 0 := by decide
  have c3 : ¬ ((a.length : Int) < 0) := by clear w1 w2 w3 w4; omega
  have c4 : (1 : Int) < 2 := by decide
  have c5 : (0 : Int) ≤ 1 := by decide
  have c6 : ¬ (((a.length + b.length : Nat) : Int) < 0) := by clear w1 w2 w3 w4; omega
  have c7 : ¬ ((2 : Int) < 2) := by decide
  have g : slices_Grow_int_int.f [] ((a.length + b.length : Nat) : Int) = some [] := by
    unfold slices_Grow_int_int.f
    exact if_pos ⟨rfl, by clear w1 w2 w3 w4; omega, by clear w1 w2 w3 w4; omega⟩
  have c8 : ([] : List Int).length + a.length < 17592186044416 := by clear w1 w2 w3 w4; rw [List.length_nil]; omega
  have c9 : a.length + b.length < 17592186044416 := by clear w1 w2 w3 w4; omega
  refine Ev.s ?_
  simp only [slices_Concat_int_int.l0, l2, if_pos c1, if_pos c2, r0, w1, if_neg c3, w3]
  refine Ev.s ?_
  simp only [slices_Concat_int_int.l0, l2, if_pos c4, if_pos c5, r1, w2, if_neg c6, w4]
  refine Ev.s ?_
  simp only [slices_Concat_int_int.l0, l2, if_neg c7, g, Option.bind_some]
  refine Ev.s ?_
  simp only [slices_Concat_int_int.l1, l2, if_pos c1, if_pos c2, r0, if_pos c8, List.nil_append, w3]
  refine Ev.s ?_
  simp only [slices_Concat_int_int.l1, l2, if_pos c4, if_pos c5, r1, if_pos c9, w4]
  refine Ev.s ?_
  simp only [slices_Concat_int_int.l1, l2, if_neg c7]
  exact Ev.now _
theorem rotated_ev (l : List Int) (i : Nat) (h : i ≤ l.length) (hl : l.length ≤ 1000) : Ev (fun k => impl_rotated.f k l (i : Int)) (rot l i) := by
  unfold impl_rotated.f
  have c1 : (0 : Int) ≤ (i : Int) := by omega
  have c2 : (i : Int) ≤ (l.length : Int) := by omega
  simp only [if_pos c1, if_pos c2, Int.toNat_natCast]
  exact Ev.bs (concat_ev (l.drop i) (l.take i) (by rw [List.length_drop]; omega) (by rw [List.length_take]; omega)) (Ev.now _)
theorem cyRotate_eq (l : List Int) (i : Nat) (h : i ≤ l.length) (hl : l.length ≤ 1000) : spec_cyRotate.f l (i : Int) = some (rot l i) := by
  unfold spec_cyRotate.f spec_l1Own.f
  have c1 : (0 : Int) ≤ (i : Int) := by omega
  have c2 : (i : Int) ≤ (l.length : Int) := by omega
  have c3 : ([] : List Int).length + (l.drop i).length < 17592186044416 := by rw [List.length_nil, List.length_drop]; omega
  have c4 : (l.drop i).length + (l.take i).length < 17592186044416 := by rw [List.length_take, List.length_drop]; omega
  simp only [if_pos c1, if_pos c2, Int.toNat_natCast, Option.bind_some, if_pos c3, List.nil_append, if_pos c4]
  rfl

/-- k, k + 1, .. -/
def upL : Int → Nat → List Int
  | _, 0 => []
  | k, n + 1 => k :: upL (k + 1) n
theorem upL_len : ∀ (n : Nat) (k : Int), (upL k n).length = n
  | 0, _ => rfl
  | n + 1, k => by simp only [upL, List.length_cons, upL_len n]
theorem upL_snoc : ∀ (n : Nat) (k : Int), upL k (n + 1) = upL k n ++ [k + n]
  | 0, k => by simp [upL]
  | n + 1, k => by
    rw [upL, upL_snoc n (k + 1), upL, List.cons_append, Int.natCast_succ, show k + 1 + (n : Int) = k + ((n : Int) + 1) from by omega]
theorem upL_rd : ∀ (n i : Nat) (k : Int), i < n → rd (upL k n) (i : Int) = k + i
  | n + 1, 0, k, _ => by simp [upL, rd_cons_zero]
  | n + 1, i + 1, k, h => by
    rw [upL, rd_cons_succ, upL_rd n i (k + 1) (by omega), Int.natCast_succ]; omega
theorem markIntS_ev (l : List Int) (hl : l.length ≤ 2000000) : Ev (fun k => laws_markIntS.f k l 1) (1 + (l.length : Int), upL 1 l.length) := by
  have key : ∀ (d i : Nat) (m : List Int), i + d = l.length → m.length = l.length → m.take i = upL 1 i → Ev (fun k => laws_markIntS.l0 k m (1 + (i : Int)) (i : Int)) (1 + (l.length : Int), upL 1 l.length) := by
    intro d
    induction d with
    | zero =>
      intro i m hi hm ht
      refine Ev.s ?_
      have c : ¬ ((i : Int) < (m.length : Int)) := by omega
      simp only [laws_markIntS.l0, if_neg c]
      rw [List.take_of_length_le (by omega)] at ht
      rw [ht, show i = l.length from by omega]
      exact Ev.now _
    | succ d ih =>
      intro i m hi hm ht
      refine Ev.s ?_
      have c1 : ((i : Int) < (m.length : Int)) := by omega
      have c2 : (0 : Int) ≤ (i : Int) := by omega
      have e := wsucc i l.length (by omega) (by omega)
      have e2 : wrap64 (1 + (i : Int) + 1) = 1 + ((i + 1 : Nat) : Int) := by rw [w64 (by omega) (by omega)]; omega
      simp only [laws_markIntS.l0, if_pos c1, if_pos c2, e, e2, Int.toNat_natCast]
      refine ih (i + 1) _ (by omega) (by simpa using hm) ?_
      rw [List.take_succ_eq_append_getElem (by simp; omega), List.take_set_of_le (by omega), ht, upL_snoc]
      simp
  have := key l.length 0 l (by omega) rfl rfl
  exact this
theorem heldIntS_ev (n : Nat) (hn : n ≤ 2000000) : Ev (fun k => laws_heldIntS.f k (upL 1 n) 1) (1 + (n : Int)) := by
  have key : ∀ (d i : Nat), i + d = n → Ev (fun k => laws_heldIntS.l0 k (upL 1 n) (1 + (i : Int)) (i : Int)) (1 + (n : Int)) := by
    intro d
    induction d with
    | zero =>
      intro i hi
      refine Ev.s ?_
      have c : ¬ ((i : Int) < ((upL 1 n).length : Int)) := by rw [upL_len]; omega
      simp only [laws_heldIntS.l0, if_neg c]
      rw [show i = n from by omega]
      exact Ev.now _
    | succ d ih =>
      intro i hi
      refine Ev.s ?_
      have c1 : ((i : Int) < ((upL 1 n).length : Int)) := by rw [upL_len]; omega
      have c2 : (0 : Int) ≤ (i : Int) := by omega
      have c3 := upL_rd n i 1 (by omega)
      have e := wsucc i n (by omega) (by omega)
      have e2 : wrap64 (1 + (i : Int) + 1) = 1 + ((i + 1 : Nat) : Int) := by rw [w64 (by omega) (by omega)]; omega
      simp only [laws_heldIntS.l0, if_pos c1, if_pos c2, c3, if_true, e, e2]
      exact ih (i + 1) (by omega)
  have := key n 0 (by omega)
  exact this

theorem GoodRotations_frame (l : List Int) (hl : l.length ≤ 2000000) (v : List Int) (b : Bool) (hv : v.length ≤ 2000000) (e1 : Ev (fun k => spec_GoodRotations.f k l) (v, b)) (e2 : Ev (fun k => impl_GoodRotations.f k l) (v, b)) :
    Ev (fun k => laws_FnExactGoodRotations.f k l) true := by
  unfold laws_FnExactGoodRotations.f
  by_cases h : (l.length : Int) > 1048576
  · simp only [if_pos h]; exact Ev.now _
  simp only [if_neg h]
  have ht := toIntS_ev l (by omega)
  have hh := heldIntS_ev v.length hv
  refine Ev.bs ht (Ev.bs e1 (Ev.bs ht (Ev.bs e2 (Ev.bs (eqIntS_ev v v (by omega)) ?_))))
  simp only [decide_true, if_true, bne_self_eq_false]
  refine Ev.s ?_
  simp only [laws_FnExactGoodRotations.j0, Bool.false_eq_true, if_false]
  have c1 : ¬ (1 + (v.length : Int) < 0) := by omega
  have c2 : ¬ (1 + (l.length : Int) < 0) := by omega
  refine Ev.bs ht (Ev.bs (eqIntS_ev l l (by omega)) ?_)
  simp only [decide_true, if_true]
  refine Ev.bs (markIntS_ev l hl) ?_
  simp only [if_neg c2]
  refine Ev.bs (eqIntS_ev v v (by omega)) ?_
  simp only [decide_true, if_true, bne_self_eq_false]
  refine Ev.s ?_
  simp only [laws_FnExactGoodRotations.j1, Bool.false_eq_true, if_false]
  refine Ev.bs (markIntS_ev v hv) (Ev.bs hh ?_)
  simp only [if_neg c1, if_true]
  refine Ev.bs ht (Ev.bs e2 (Ev.bs (eqIntS_ev v v (by omega)) ?_))
  simp only [decide_true, if_true, bne_self_eq_false]
  refine Ev.s ?_
  simp only [laws_FnExactGoodRotations.j2, Bool.false_eq_true, if_false]
  refine Ev.bs hh ?_
  simp only [if_neg c1, if_true]
  exact Ev.now _
theorem GoodRotations_far (l : List Int) (h : (l.length : Int) > 1048576) : Ev (fun k => laws_FnExactGoodRotations.f k l) true := by
  unfold laws_FnExactGoodRotations.f
  simp only [if_pos h]; exact Ev.now _

/-- The rotations that are forests. -/
def GRS (l : List Int) : Nat → Nat → List Int → List Int
  | 0, _, acc => acc
  | d + 1, i, acc => GRS l d (i + 1) (if ForB (rot l i) = true then acc ++ [(i : Int)] else acc)
theorem GRS_len (l : List Int) : ∀ (d i : Nat) (acc : List Int), (GRS l d i acc).length ≤ acc.length + d
  | 0, _, _ => Nat.le_refl _
  | d + 1, i, acc => by
    have := GRS_len l d (i + 1) (if ForB (rot l i) = true then acc ++ [(i : Int)] else acc)
    have h2 : (if ForB (rot l i) = true then acc ++ [(i : Int)] else acc).length ≤ acc.length + 1 := by split <;> simp
    unfold GRS
    omega
theorem specGood_l0 (l : List Int) (hd : DegB l = true) : ∀ (d i : Nat) (acc : List Int), i + d = l.length → acc.length ≤ i → Ev (fun k => spec_GoodRotations.l0 k l acc (l.length : Int) (i : Int)) (GRS l d i acc, true) := by
  have h16 := (DegB_iff hd).1
  intro d
  induction d with
  | zero =>
    intro i acc hi ha
    refine Ev.s ?_
    have c : ¬ ((i : Int) < (l.length : Int)) := by omega
    simp only [spec_GoodRotations.l0, if_neg c]
    exact Ev.now _
  | succ d ih =>
    intro i acc hi ha
    refine Ev.s ?_
    have c : (i : Int) < (l.length : Int) := by omega
    have c2 : acc.length < 17592186044416 := by omega
    have hil : i ≤ l.length := by omega
    simp only [spec_GoodRotations.l0, if_pos c, cyRotate_eq l i hil (by omega), Option.bind_some, wsucc i 16 (by omega) (by omega)]
    refine Ev.bs (cyForest_ev (rot l i) (rot_deg l i hil hd)) ?_
    unfold GRS
    by_cases f : ForB (rot l i) = true
    · simp only [if_pos f, if_pos c2]
      exact ih (i + 1) _ (by omega) (by rw [List.length_append, List.length_singleton]; omega)
    · simp only [if_neg f]
      exact ih (i + 1) _ (by omega) (by omega)
theorem implGood_l0 (l : List Int) (hd : DegB l = true) : ∀ (d i : Nat) (acc : List Int), i + d = l.length → acc.length ≤ i → Ev (fun k => impl_GoodRotations.l0 k l acc (l.length : Int) (i : Int)) (GRS l d i acc, true) := by
  have h16 := (DegB_iff hd).1
  intro d
  induction d with
  | zero =>
    intro i acc hi ha
    refine Ev.s ?_
    have c : ¬ ((i : Int) < (l.length : Int)) := by omega
    simp only [impl_GoodRotations.l0, if_neg c]
    exact Ev.now _
  | succ d ih =>
    intro i acc hi ha
    refine Ev.s ?_
    have c : (i : Int) < (l.length : Int) := by omega
    have c2 : acc.length < 17592186044416 := by omega
    have hil : i ≤ l.length := by omega
    simp only [impl_GoodRotations.l0, if_pos c, wsucc i 16 (by omega) (by omega)]
    refine Ev.bs (rotated_ev l i hil (by omega)) ?_
    refine Ev.bs (isForest_ev (rot l i) (rot_deg l i hil hd)) ?_
    unfold GRS
    by_cases f : ForB (rot l i) = true
    · simp only [if_pos f, if_pos c2]
      exact ih (i + 1) _ (by omega) (by rw [List.length_append, List.length_singleton]; omega)
    · simp only [if_neg f]
      exact ih (i + 1) _ (by omega) (by omega)
theorem FnExactGoodRotations : laws_FnExactGoodRotations.Pure := by
  intro l _ _ _
  refine Ev.rounds ?_
  by_cases hbig : (l.length : Int) > 1048576
  · exact GoodRotations_far l hbig
  have hn : l.length ≤ 35184372088832 := by omega
  by_cases hd : DegB l = true
  · have h16 := (DegB_iff hd).1
    have hlen := GRS_len l l.length 0 []
    rw [List.length_nil] at hlen
    refine GoodRotations_frame l (by omega) (GRS l l.length 0 []) true (by omega) ?_ ?_
    · unfold spec_GoodRotations.f
      refine Ev.bs (cyGood_ev l hn) ?_
      simp only [hd, if_true]
      exact specGood_l0 l hd l.length 0 [] (by omega) (by simp)
    · unfold impl_GoodRotations.f
      refine Ev.bs (isDegrees_ev l hn) ?_
      simp only [hd, if_true]
      exact implGood_l0 l hd l.length 0 [] (by omega) (by simp)
  · refine GoodRotations_frame l (by omega) [] false (by simp) ?_ ?_
    · unfold spec_GoodRotations.f
      refine Ev.bs (cyGood_ev l hn) ?_
      simp only [if_neg hd]
      exact Ev.now _
    · unfold impl_GoodRotations.f
      refine Ev.bs (isDegrees_ev l hn) ?_
      simp only [if_neg hd]
      exact Ev.now _

end Go.Proofs.Ytepheolianmkbaa.Pure
