/- The plain law of the statement FnExactIsForest: what the program's function computes is what the reference's computes, for all arguments; no condition. -/
import Derived.Test.YtepheolianmkbaaPFnExactIsForestx2
namespace Go.Proofs.Ytepheolianmkbaa.Pure
open Go.RowKit Go.Proofs.Ytepheolianmkbaa.PFnExactIsForest Go.Proofs.YtepheolianmkbaaW.PrintWords Go.Proofs.YtepheolianmkbaaW.PrintLast Go.Proofs.YtepheolianmkbaaW.PrintMore

theorem Ev.s {α : Type} {g : Nat → Option α} {r : α} (h : Ev (fun k => g (k + 1)) r) : Ev g r := by
  obtain ⟨K, hK⟩ := h
  refine ⟨K + 1, fun k hk => ?_⟩
  obtain ⟨m, rfl⟩ : ∃ m, k = m + 1 := ⟨k - 1, by omega⟩
  exact hK m (by omega)
theorem Ev.c {α : Type} {o : Option α} {r : α} (h : o = some r) : Ev (fun _ => o) r := ⟨0, fun _ _ => h⟩
theorem Ev.u {α : Type} {g : Nat → Option α} {r r' : α} (h : Ev g r) (h' : Ev g r') : r = r' := by
  obtain ⟨K, hK⟩ := h
  obtain ⟨K', hK'⟩ := h'
  have a := hK (max K K') (by omega)
  have b := hK' (max K K') (by omega)
  rw [a] at b
  exact Option.some.inj b
theorem Ev.e {α : Type} {g : Nat → Option α} {r r' : α} (h : Ev g r) (e : r = r') : Ev g r' := e ▸ h
theorem Ev.bs {α β : Type} {g : Nat → Option α} {f : Nat → α → Option β} {a : α} {r : β} (h : Ev g a) (k : Ev (fun n => f n a) r) : Ev (fun n => Option.bind (g n) (f n)) r := Ev.bind h k
theorem w64 {n : Int} (h : -9223372036854775808 ≤ n) (h' : n ≤ 9223372036854775807) : wrap64 n = n := by unfold wrap64; omega
theorem rd_set (l : List Int) (i j : Int) (v : Int) (hi : 0 ≤ i) (hj : 0 ≤ j) (hl : i < (l.length : Int)) : rd (l.set i.toNat v) j = if i = j then v else rd l j := by
  unfold rd
  rw [List.getD_eq_getElem?_getD, List.getD_eq_getElem?_getD, List.getElem?_set]
  by_cases e : i = j
  · subst e; rw [if_pos rfl, if_pos rfl, if_pos (by omega)]; rfl
  · rw [if_neg (by omega), if_neg e]

theorem in_eq (a b c : Int) : impl_in.f a b c = some (decide (b ≤ a ∧ a ≤ c)) := by
  unfold impl_in.f
  by_cases h : b ≤ a
  · rw [if_pos h]; simp [h]
  · rw [if_neg h]; simp [h]
theorem l1In_eq (a b c : Int) : spec_l1In.f a b c = some (decide (b ≤ a ∧ a ≤ c)) := by
  unfold spec_l1In.f
  by_cases h : a ≥ b
  · rw [if_pos h]; simp [h]
  · rw [if_neg h]; simp [h]

theorem drop_rd (l : List Int) (i : Nat) (h : i < l.length) : l.drop i = rd l (i : Int) :: l.drop (i + 1) := by
  rw [List.drop_eq_getElem_cons h]
  unfold rd
  rw [Int.toNat_natCast, List.getD_eq_getElem?_getD, List.getElem?_eq_getElem h]
  rfl
theorem rd_get (l : List Int) (i : Nat) (h : i < l.length) : rd l (i : Int) = l[i] := by
  unfold rd
  rw [Int.toNat_natCast, List.getD_eq_getElem?_getD, List.getElem?_eq_getElem h]
  rfl
theorem wsucc (i n : Nat) (h : i < n) (hn : n ≤ 9223372036854775807) : wrap64 ((i : Int) + 1) = ((i + 1 : Nat) : Int) := by
  rw [w64 (by omega) (by omega)]; omega
theorem rd_cons_succ (x : Int) (l : List Int) (i : Nat) : rd (x :: l) ((i + 1 : Nat) : Int) = rd l (i : Int) := by
  unfold rd
  simp only [Int.toNat_natCast, List.getD_cons_succ]
theorem rd_cons_zero (x : Int) (l : List Int) : rd (x :: l) 0 = x := rfl

theorem rd_take (l : List Int) (n i : Nat) (h : i < n) : rd (l.take n) (i : Int) = rd l (i : Int) := by
  unfold rd
  rw [Int.toNat_natCast, List.getD_eq_getElem?_getD, List.getD_eq_getElem?_getD, List.getElem?_take_of_lt h]

theorem toIntS_l0 (l : List Int) (hn : l.length ≤ 35184372088832) (d : Nat) : ∀ (i : Nat) (m : List Int), i + d = l.length → m.length = l.length → m.take i = l.take i →
    Ev (fun k => laws_toIntS.l0 k l m (i : Int)) l := by
  induction d with
  | zero =>
    intro i m hi hm ht
    refine Ev.s ?_
    have c : ¬ ((i : Int) < (l.length : Int)) := by omega
    simp only [laws_toIntS.l0, if_neg c]
    rw [List.take_of_length_le (by omega), List.take_of_length_le (by omega)] at ht
    rw [ht]; exact Ev.now _
  | succ d ih =>
    intro i m hi hm ht
    refine Ev.s ?_
    have c1 : ((i : Int) < (l.length : Int)) := by omega
    have c2 : (0 : Int) ≤ (i : Int) := by omega
    have c3 : ((i : Int) < (m.length : Int)) := by omega
    have e := wsucc i l.length (by omega) (by omega)
    simp only [laws_toIntS.l0, if_pos c1, if_pos c2, if_pos c3, e, Int.toNat_natCast]
    refine ih (i + 1) _ (by omega) (by simpa using hm) ?_
    rw [rd_get l i (by omega)]
    rw [List.take_succ_eq_append_getElem (by simp; omega), List.take_set_of_le (by omega), ht, List.take_succ_eq_append_getElem (by omega)]
    simp
theorem toIntS_ev (l : List Int) (hn : l.length ≤ 35184372088832) : Ev (fun k => laws_toIntS.f k l) l := by
  unfold laws_toIntS.f
  have c1 : (0 : Int) ≤ (l.length : Int) := by omega
  have c2 : ((l.length : Int) : Int).toNat ≤ 35184372088832 := by omega
  simp only [if_pos c1, if_pos c2]
  exact toIntS_l0 l hn l.length 0 _ (by omega) (by simp) (by simp)

theorem eqIntS_l0 (l m : List Int) (hl : l.length = m.length) (hn : l.length ≤ 35184372088832) (d : Nat) : ∀ (i : Nat), i + d = l.length →
    Ev (fun k => laws_eqIntS.l0 k l m (i : Int)) (decide (l.drop i = m.drop i)) := by
  induction d with
  | zero =>
    intro i hi
    refine Ev.s ?_
    have c : ¬ ((i : Int) < (l.length : Int)) := by omega
    simp only [laws_eqIntS.l0, if_neg c]
    rw [List.drop_of_length_le (by omega), List.drop_of_length_le (by omega)]
    exact Ev.now _
  | succ d ih =>
    intro i hi
    refine Ev.s ?_
    have c1 : ((i : Int) < (l.length : Int)) := by omega
    have c2 : (0 : Int) ≤ (i : Int) := by omega
    have c3 : ((i : Int) < (m.length : Int)) := by omega
    have e := wsucc i l.length (by omega) (by omega)
    simp only [laws_eqIntS.l0, if_pos c1, if_pos c2, if_pos c3, e]
    rw [drop_rd l i (by omega), drop_rd m i (by omega)]
    by_cases h : rd l (i : Int) = rd m (i : Int)
    · simp only [if_pos h]
      refine Ev.e (ih (i + 1) (by omega)) ?_
      simp [h]
    · simp only [if_neg h]
      have : (decide (rd l (i : Int) :: l.drop (i + 1) = rd m (i : Int) :: m.drop (i + 1))) = false := by
        apply decide_eq_false; intro h'; exact h (List.cons.inj h').1
      rw [this]; exact Ev.now _
theorem eqIntS_ev (l m : List Int) (hn : l.length ≤ 35184372088832) : Ev (fun k => laws_eqIntS.f k l m) (decide (l = m)) := by
  unfold laws_eqIntS.f
  by_cases h : l.length = m.length
  · have c : ((l.length : Int) = (m.length : Int)) := by omega
    simp only [if_pos c]
    exact eqIntS_l0 l m h hn l.length 0 (by omega)
  · have c : ¬ ((l.length : Int) = (m.length : Int)) := by omega
    simp only [if_neg c]
    have : decide (l = m) = false := by apply decide_eq_false; intro e; rw [e] at h; exact h rfl
    rw [this]; exact Ev.now _

/-- Are these degrees? -/
def DegB (l : List Int) : Bool := decide (1 ≤ l.length ∧ l.length ≤ 16) && l.all (fun x => decide (0 ≤ x ∧ x ≤ 16))
theorem l1All_l0 (lo hi : Int) (l : List Int) (hn : l.length ≤ 35184372088832) (d : Nat) : ∀ (i : Nat), i + d = l.length →
    Ev (fun k => spec_l1All.l0 k lo hi l (l.length : Int) (i : Int)) ((l.drop i).all (fun x => decide (lo ≤ x ∧ x ≤ hi))) := by
  induction d with
  | zero =>
    intro i h
    refine Ev.s ?_
    have c : ¬ ((i : Int) < (l.length : Int)) := by omega
    simp only [spec_l1All.l0, if_neg c]
    rw [List.drop_of_length_le (by omega)]
    exact Ev.now _
  | succ d ih =>
    intro i h
    refine Ev.s ?_
    have c1 : ((i : Int) < (l.length : Int)) := by omega
    have c2 : (0 : Int) ≤ (i : Int) := by omega
    have e := wsucc i l.length (by omega) (by omega)
    rw [drop_rd l i (by omega)]
    simp only [spec_l1All.l0, if_pos c1, if_pos c2, e, l1In_eq, Option.bind_some, decide_eq_true_eq, List.all_cons]
    by_cases h' : lo ≤ rd l (i : Int) ∧ rd l (i : Int) ≤ hi
    · simp only [if_pos h', decide_eq_true h', Bool.true_and]
      exact ih (i + 1) (by omega)
    · simp only [if_neg h', decide_eq_false h', Bool.false_and]
      exact Ev.now _
theorem l1All_ev (lo hi : Int) (l : List Int) (hn : l.length ≤ 35184372088832) : Ev (fun k => spec_l1All.f k l lo hi) (l.all (fun x => decide (lo ≤ x ∧ x ≤ hi))) := by
  unfold spec_l1All.f
  exact l1All_l0 lo hi l hn l.length 0 (by omega)
theorem cyGood_ev (l : List Int) (hn : l.length ≤ 35184372088832) : Ev (fun k => spec_cyGood.f k l) (DegB l) := by
  unfold spec_cyGood.f DegB
  simp only [l1In_eq, Option.bind_some, decide_eq_true_eq]
  by_cases h : 1 ≤ l.length ∧ l.length ≤ 16
  · simp only [if_pos (show (1 : Int) ≤ (l.length : Int) ∧ (l.length : Int) ≤ 16 from by omega), decide_eq_true h, Bool.true_and]
    exact Ev.bs (l1All_ev 0 16 l hn) (Ev.now _)
  · simp only [if_neg (show ¬ ((1 : Int) ≤ (l.length : Int) ∧ (l.length : Int) ≤ 16) from by omega), decide_eq_false h, Bool.false_and]
    exact Ev.now _
theorem isDegrees1_eq (x : Int) : impl_IsDegrees_1.f x = some (!decide (0 ≤ x ∧ x ≤ 16)) := by
  unfold impl_IsDegrees_1.f; rw [in_eq]; rfl
theorem indexFunc_l0 (l : List Int) (hn : l.length ≤ 35184372088832) (d : Nat) : ∀ (i : Nat), i + d = l.length →
    ∃ r : Int, Ev (fun k => slices_IndexFunc_int_int.l0 k l (l.length : Int) (i : Int)) r ∧ decide (r ≥ 0) = !(l.drop i).all (fun x => decide (0 ≤ x ∧ x ≤ 16)) := by
  induction d with
  | zero =>
    intro i h
    refine ⟨-1, Ev.s ?_, by rw [List.drop_of_length_le (by omega)]; rfl⟩
    have c : ¬ ((i : Int) < (l.length : Int)) := by omega
    simp only [slices_IndexFunc_int_int.l0, if_neg c]
    exact Ev.now _
  | succ d ih =>
    intro i h
    have c1 : ((i : Int) < (l.length : Int)) := by omega
    have c2 : (0 : Int) ≤ (i : Int) := by omega
    have e := wsucc i l.length (by omega) (by omega)
    rw [drop_rd l i (by omega)]
    by_cases h' : 0 ≤ rd l (i : Int) ∧ rd l (i : Int) ≤ 16
    · obtain ⟨r, hr, hd⟩ := ih (i + 1) (by omega)
      refine ⟨r, Ev.s ?_, by simp only [List.all_cons, decide_eq_true h', Bool.true_and, hd]⟩
      simp only [slices_IndexFunc_int_int.l0, if_pos c1, if_pos c2, e, isDegrees1_eq, Option.bind_some, decide_eq_true h', Bool.not_true, Bool.false_eq_true, if_false]
      exact hr
    · refine ⟨i, Ev.s ?_, by simp only [List.all_cons, decide_eq_false h', Bool.false_and, Bool.not_false]; exact decide_eq_true (by omega)⟩
      simp only [slices_IndexFunc_int_int.l0, if_pos c1, if_pos c2, e, isDegrees1_eq, Option.bind_some, decide_eq_false h', Bool.not_false, if_true]
      exact Ev.now _
theorem isDegrees_ev (l : List Int) (hn : l.length ≤ 35184372088832) : Ev (fun k => impl_IsDegrees.f k l) (DegB l) := by
  unfold impl_IsDegrees.f DegB slices_ContainsFunc_int_int.f slices_IndexFunc_int_int.f
  simp only [in_eq, Option.bind_some, decide_eq_true_eq]
  by_cases h : 1 ≤ l.length ∧ l.length ≤ 16
  · simp only [if_pos (show (1 : Int) ≤ (l.length : Int) ∧ (l.length : Int) ≤ 16 from by omega), decide_eq_true h, Bool.true_and]
    obtain ⟨r, hr, hd⟩ := indexFunc_l0 l hn l.length 0 (by omega)
    rw [List.drop_zero] at hd
    refine Ev.bs (a := decide (r ≥ 0)) (Ev.bs hr (Ev.now _)) (Ev.c ?_)
    rw [hd]; simp
  · simp only [if_neg (show ¬ ((1 : Int) ≤ (l.length : Int) ∧ (l.length : Int) ≤ 16) from by omega), decide_eq_false h, Bool.false_and]
    exact Ev.now _

/-- The excess from a place on. -/
def sumL : List Int → Int
  | [] => 0
  | x :: r => x + sumL r
theorem sumL_append (l m : List Int) : sumL (l ++ m) = sumL l + sumL m := by
  induction l with
  | nil => simp [sumL]
  | cons x r ih => simp only [List.cons_append, sumL, ih]; omega
theorem DegB_iff {l : List Int} (h : DegB l = true) : (1 ≤ l.length ∧ l.length ≤ 16) ∧ ∀ x ∈ l, 0 ≤ x ∧ x ≤ 16 := by
  unfold DegB at h
  simp only [Bool.and_eq_true, decide_eq_true_eq, List.all_eq_true] at h
  exact ⟨h.1, h.2⟩
theorem sumL_bd (l : List Int) (h : ∀ x ∈ l, 0 ≤ x ∧ x ≤ 16) : 0 ≤ sumL l ∧ sumL l ≤ 16 * (l.length : Int) := by
  induction l with
  | nil => simp [sumL]
  | cons x r ih =>
    have := ih (fun y hy => h y (List.mem_cons_of_mem _ hy))
    have hx := h x List.mem_cons_self
    simp only [sumL, List.length_cons]; omega
theorem deg_drop {l : List Int} (h : DegB l = true) (i : Nat) : 0 ≤ sumL (l.drop i) ∧ sumL (l.drop i) ≤ 256 := by
  obtain ⟨h1, h2⟩ := DegB_iff h
  have := sumL_bd (l.drop i) (fun x hx => h2 x (List.mem_of_mem_drop hx))
  rw [List.length_drop] at this
  omega
theorem deg_rd {l : List Int} (h : DegB l = true) (i : Nat) (hi : i < l.length) : 0 ≤ rd l (i : Int) ∧ rd l (i : Int) ≤ 16 := by
  rw [rd_get l i hi]
  exact (DegB_iff h).2 _ (List.getElem_mem _)
/-- The excess of degrees. -/
def Exc (l : List Int) : Int := (l.length : Int) - sumL l
theorem cyExcess_ev (l : List Int) (h : DegB l = true) : Ev (fun k => spec_cyExcess.f k l) (Exc l) := by
  have hl := (DegB_iff h).1
  have key : ∀ (d i : Nat) (x : Int), i + d = l.length → -1000 ≤ x - sumL (l.drop i) ∧ x ≤ 1000 → Ev (fun k => spec_cyExcess.l0 k x l (l.length : Int) (i : Int)) (x - sumL (l.drop i)) := by
    intro d
    induction d with
    | zero =>
      intro i x hi hx
      refine Ev.s ?_
      have c : ¬ ((i : Int) < (l.length : Int)) := by omega
      simp only [spec_cyExcess.l0, if_neg c]
      rw [List.drop_of_length_le (by omega)]
      exact Ev.c (by simp [sumL])
    | succ d ih =>
      intro i x hi hx
      have hr := deg_rd h i (by omega)
      have h0 := deg_drop h (i + 1)
      rw [drop_rd l i (by omega), sumL] at hx ⊢
      refine Ev.s ?_
      have c1 : ((i : Int) < (l.length : Int)) := by omega
      have c2 : (0 : Int) ≤ (i : Int) := by omega
      have e := wsucc i l.length (by omega) (by omega)
      have e2 : wrap64 (x - rd l (i : Int)) = x - rd l (i : Int) := w64 (by omega) (by omega)
      simp only [spec_cyExcess.l0, if_pos c1, if_pos c2, e, e2]
      exact Ev.e (ih (i + 1) (x - rd l (i : Int)) (by omega) (by omega)) (by omega)
  unfold spec_cyExcess.f Exc
  have h0 := deg_drop h 0
  have := key l.length 0 (l.length : Int) (by omega) (by omega)
  rwa [List.drop_zero] at this
theorem excess_ev (l : List Int) (h : DegB l = true) : Ev (fun k => impl_excess.f k l) (Exc l) := by
  have hl := (DegB_iff h).1
  have key : ∀ (d i : Nat) (x : Int), i + d = l.length → -1000 ≤ x - sumL (l.drop i) ∧ x ≤ 1000 → Ev (fun k => impl_excess.l0 k x l (l.length : Int) (i : Int)) (x - sumL (l.drop i)) := by
    intro d
    induction d with
    | zero =>
      intro i x hi hx
      refine Ev.s ?_
      have c : ¬ ((i : Int) < (l.length : Int)) := by omega
      simp only [impl_excess.l0, if_neg c]
      rw [List.drop_of_length_le (by omega)]
      exact Ev.c (by simp [sumL])
    | succ d ih =>
      intro i x hi hx
      have hr := deg_rd h i (by omega)
      have h0 := deg_drop h (i + 1)
      rw [drop_rd l i (by omega), sumL] at hx ⊢
      refine Ev.s ?_
      have c1 : ((i : Int) < (l.length : Int)) := by omega
      have c2 : (0 : Int) ≤ (i : Int) := by omega
      have e := wsucc i l.length (by omega) (by omega)
      have e2 : wrap64 (x - rd l (i : Int)) = x - rd l (i : Int) := w64 (by omega) (by omega)
      simp only [impl_excess.l0, if_pos c1, if_pos c2, e, e2]
      exact Ev.e (ih (i + 1) (x - rd l (i : Int)) (by omega) (by omega)) (by omega)
  unfold impl_excess.f Exc
  have h0 := deg_drop h 0
  have := key l.length 0 (l.length : Int) (by omega) (by omega)
  rwa [List.drop_zero] at this

/-- No sum of the first ones is -r or less. -/
def forB (r : Int) : Int → List Int → Bool
  | _, [] => true
  | s, x :: t => if s + (x - 1) ≤ -r then false else forB r (s + (x - 1)) t
/-- Are degrees a forest? -/
def ForB (l : List Int) : Bool := decide (Exc l ≥ 1) && forB (Exc l) 0 (l.take (l.length - 1))
theorem exc_bd {l : List Int} (h : DegB l = true) : -1000 ≤ Exc l ∧ Exc l ≤ 16 := by
  have h1 := (DegB_iff h).1
  have h0 := deg_drop h 0
  rw [List.drop_zero] at h0
  unfold Exc
  omega
theorem fo_wrap (s x : Int) (i : Nat) (hi : i ≤ 16) (hs : -(i : Int) ≤ s ∧ s ≤ 16 * (i : Int)) (hx : 0 ≤ x ∧ x ≤ 16) : wrap64 (x - 1) = x - 1 ∧ wrap64 (s + (x - 1)) = s + (x - 1) :=
  ⟨w64 (by omega) (by omega), w64 (by omega) (by omega)⟩
theorem fo_inv (s x : Int) (i : Nat) (hs : -(i : Int) ≤ s ∧ s ≤ 16 * (i : Int)) (hx : 0 ≤ x ∧ x ≤ 16) : -((i + 1 : Nat) : Int) ≤ s + (x - 1) ∧ s + (x - 1) ≤ 16 * ((i + 1 : Nat) : Int) := by omega
theorem isForest_ev (l : List Int) (h : DegB l = true) : Ev (fun k => impl_isForest.f k l) (ForB l) := by
  have hl := (DegB_iff h).1
  have hr := exc_bd h
  unfold impl_isForest.f ForB
  refine Ev.bs (excess_ev l h) ?_
  have e1 : wrap64 ((l.length : Int) - 1) = ((l.length - 1 : Nat) : Int) := by rw [w64 (by omega) (by omega)]; omega
  have c1 : (0 : Int) ≤ ((l.length - 1 : Nat) : Int) := by omega
  have c2 : ((l.length - 1 : Nat) : Int) ≤ (l.length : Int) := by omega
  simp only [e1, if_pos c1, if_pos c2, Int.toNat_natCast]
  generalize hr' : Exc l = r at hr
  have hb : ∀ i : Nat, i < (l.take (l.length - 1)).length → 0 ≤ rd (l.take (l.length - 1)) (i : Int) ∧ rd (l.take (l.length - 1)) (i : Int) ≤ 16 := by
    intro i hi
    rw [List.length_take] at hi
    rw [rd_take _ _ _ (by omega)]
    exact deg_rd h i (by omega)
  have hn : (l.take (l.length - 1)).length ≤ 16 := by rw [List.length_take]; omega
  generalize l.take (l.length - 1) = m at hb hn
  clear hr' e1 c1 c2 hl h
  have key : ∀ (d i : Nat) (s : Int), i + d = m.length → -(i : Int) ≤ s ∧ s ≤ 16 * (i : Int) → Ev (fun k => impl_isForest.l0 k r s m (m.length : Int) (i : Int)) (decide (r ≥ 1) && forB r s (m.drop i)) := by
    intro d
    induction d with
    | zero =>
      intro i s hi hs
      refine Ev.s ?_
      have c : ¬ ((i : Int) < (m.length : Int)) := by omega
      simp only [impl_isForest.l0, if_neg c]
      rw [List.drop_of_length_le (by omega)]
      exact Ev.c (by simp [forB])
    | succ d ih =>
      intro i s hi hs
      refine Ev.s ?_
      have hx := hb i (by omega)
      have c1 : ((i : Int) < (m.length : Int)) := by omega
      have c2 : (0 : Int) ≤ (i : Int) := by omega
      have e := wsucc i m.length (by omega) (by omega)
      obtain ⟨w1, w2⟩ := fo_wrap s (rd m (i : Int)) i (by omega) hs hx
      have iv := fo_inv s (rd m (i : Int)) i hs hx
      have w3 : wrap64 (-r) = -r := w64 (by omega) (by omega)
      rw [drop_rd m i (by omega)]
      by_cases t : s + (rd m (i : Int) - 1) ≤ -r
      · simp only [impl_isForest.l0, if_pos c1, if_pos c2, w1, w2, w3, if_pos t, forB, Bool.and_false]
        exact Ev.now _
      · simp only [impl_isForest.l0, if_pos c1, if_pos c2, w1, w2, w3, if_neg t, forB, e]
        exact ih (i + 1) _ (by omega) iv
  have := key m.length 0 0 (by omega) (by omega)
  rwa [List.drop_zero] at this
theorem cyForest_ev (l : List Int) (h : DegB l = true) : Ev (fun k => spec_cyForest.f k l) (ForB l) := by
  have hl := (DegB_iff h).1
  have hr := exc_bd h
  unfold spec_cyForest.f ForB
  refine Ev.bs (cyExcess_ev l h) ?_
  generalize hr' : Exc l = r at hr
  by_cases r1 : r < 1
  · simp only [if_pos r1]
    rw [decide_eq_false (by omega), Bool.false_and]
    exact Ev.now _
  simp only [if_neg r1]
  rw [decide_eq_true (by omega), Bool.true_and]
  have key : ∀ (d i : Nat) (s : Int), i + d = l.length → -(i : Int) ≤ s ∧ s ≤ 16 * (i : Int) → Ev (fun k => spec_cyForest.l0 k l r s l (l.length : Int) (i : Int)) (forB r s ((l.take (l.length - 1)).drop i)) := by
    intro d
    induction d with
    | zero =>
      intro i s hi hs
      refine Ev.s ?_
      have c : ¬ ((i : Int) < (l.length : Int)) := by omega
      simp only [spec_cyForest.l0, if_neg c]
      rw [List.drop_of_length_le (by rw [List.length_take]; omega)]
      exact Ev.now _
    | succ d ih =>
      intro i s hi hs
      refine Ev.s ?_
      have hx := deg_rd h i (by omega)
      have c1 : ((i : Int) < (l.length : Int)) := by omega
      have c2 : (0 : Int) ≤ (i : Int) := by omega
      have e := wsucc i l.length (by omega) (by omega)
      obtain ⟨w1, w2⟩ := fo_wrap s (rd l (i : Int)) i (by omega) hs hx
      have iv := fo_inv s (rd l (i : Int)) i hs hx
      have w3 : wrap64 (-r) = -r := w64 (by omega) (by omega)
      have hi' := ih (i + 1) (s + (rd l (i : Int) - 1)) (by omega) iv
      by_cases last : i + 1 < l.length
      · have c4 : ((i + 1 : Nat) : Int) < (l.length : Int) := by omega
        rw [drop_rd (l.take (l.length - 1)) i (by rw [List.length_take]; omega), rd_take _ _ _ (by omega)]
        by_cases t : s + (rd l (i : Int) - 1) ≤ -r
        · simp only [spec_cyForest.l0, if_pos c1, if_pos c2, w1, w2, w3, if_pos t, e, if_pos c4, forB]
          exact Ev.now _
        · simp only [spec_cyForest.l0, if_pos c1, if_pos c2, w1, w2, w3, if_neg t, e, forB]
          exact hi'
      · have c4 : ¬ ((i + 1 : Nat) : Int) < (l.length : Int) := by omega
        rw [List.drop_of_length_le (by rw [List.length_take]; omega)]
        rw [List.drop_of_length_le (by rw [List.length_take]; omega)] at hi'
        by_cases t : s + (rd l (i : Int) - 1) ≤ -r
        · simp only [spec_cyForest.l0, if_pos c1, if_pos c2, w1, w2, w3, if_pos t, e, if_neg c4]
          exact hi'
        · simp only [spec_cyForest.l0, if_pos c1, if_pos c2, w1, w2, w3, if_neg t, e]
          exact hi'
  have := key l.length 0 0 (by omega) (by omega)
  rwa [List.drop_zero] at this

theorem FnExactIsForest : laws_FnExactIsForest.Pure := by
  intro l _ hl _
  have hn : l.length ≤ 35184372088832 := by omega
  refine Ev.rounds ?_
  unfold laws_FnExactIsForest.f
  by_cases h : (l.length : Int) > 1048576
  · simp only [if_pos h]; exact Ev.now _
  simp only [if_neg h]
  have e1 : Ev (fun k => spec_IsForest.f k l) (if DegB l then (ForB l, true) else (false, false)) := by
    unfold spec_IsForest.f
    refine Ev.bs (cyGood_ev l hn) ?_
    by_cases hd : DegB l = true
    · simp only [if_pos hd]; exact Ev.bs (cyForest_ev l hd) (Ev.now _)
    · simp only [if_neg hd]; exact Ev.now _
  have e2 : Ev (fun k => impl_IsForest.f k l) (if DegB l then (ForB l, true) else (false, false)) := by
    unfold impl_IsForest.f
    refine Ev.bs (isDegrees_ev l hn) ?_
    by_cases hd : DegB l = true
    · simp only [if_pos hd]; exact Ev.bs (isForest_ev l hd) (Ev.now _)
    · simp only [if_neg hd]; exact Ev.now _
  refine Ev.bs (toIntS_ev l hn) (Ev.bs e1 (Ev.bs (toIntS_ev l hn) (Ev.bs e2 ?_)))
  simp only [bne_self_eq_false, Bool.false_eq_true, if_false]
  refine Ev.s ?_
  simp only [laws_FnExactIsForest.j0, Bool.false_eq_true, if_false]
  refine Ev.bs (toIntS_ev l hn) (Ev.bs (eqIntS_ev l l hn) (Ev.c ?_))
  simp

end Go.Proofs.Ytepheolianmkbaa.Pure
