/- The plain law of the statement FnExactPathOfTree: what the program's function computes is what the reference's computes, for all arguments; no condition. -/
import Derived.Test.YtepheolianmkbaaPFnExactPathOfTreex5
namespace Go.Proofs.Ytepheolianmkbaa.Pure
open Go.RowKit Go.Proofs.Ytepheolianmkbaa.PFnExactPathOfTree Go.Proofs.YtepheolianmkbaaW.PrintWords Go.Proofs.YtepheolianmkbaaW.PrintLast Go.Proofs.YtepheolianmkbaaW.PrintMore

theorem Ev.s {α : Type} {g : Nat → Option α} {r : α} (h : Ev (fun k => g (k + 1)) r) : Ev g r := by
  obtain ⟨K, hK⟩ := h
  refine ⟨K + 1, fun k hk => ?_⟩
  obtain ⟨m, rfl⟩ : ∃ m, k = m + 1 := ⟨k - 1, by omega⟩
  exact hK m (by omega)
theorem Ev.c {α : Type} {o : Option α} {r : α} (h : o = some r) : Ev (fun _ => o) r := ⟨0, fun _ _ => h⟩
theorem Ev.u {α : Type} {g : Nat → Option α} {r r' : α} (h : Ev g r) (h' : Ev g r') : r = r' := by
  obtain ⟨K, hK⟩ := h
  obtain ⟨K', hK'⟩ := h'
  have a := hK (max K K') (by omega)
  have b := hK' (max K K') (by omega)
  rw [a] at b
  exact Option.some.inj b
theorem Ev.e {α : Type} {g : Nat → Option α} {r r' : α} (h : Ev g r) (e : r = r') : Ev g r' := e ▸ h
theorem Ev.bs {α β : Type} {g : Nat → Option α} {f : Nat → α → Option β} {a : α} {r : β} (h : Ev g a) (k : Ev (fun n => f n a) r) : Ev (fun n => Option.bind (g n) (f n)) r := Ev.bind h k
theorem w64 {n : Int} (h : -9223372036854775808 ≤ n) (h' : n ≤ 9223372036854775807) : wrap64 n = n := by unfold wrap64; omega
theorem rd_set (l : List Int) (i j : Int) (v : Int) (hi : 0 ≤ i) (hj : 0 ≤ j) (hl : i < (l.length : Int)) : rd (l.set i.toNat v) j = if i = j then v else rd l j := by
  unfold rd
  rw [List.getD_eq_getElem?_getD, List.getD_eq_getElem?_getD, List.getElem?_set]
  by_cases e : i = j
  · subst e; rw [if_pos rfl, if_pos rfl, if_pos (by omega)]; rfl
  · rw [if_neg (by omega), if_neg e]

theorem in_eq (a b c : Int) : impl_in.f a b c = some (decide (b ≤ a ∧ a ≤ c)) := by
  unfold impl_in.f
  by_cases h : b ≤ a
  · rw [if_pos h]; simp [h]
  · rw [if_neg h]; simp [h]
theorem l1In_eq (a b c : Int) : spec_l1In.f a b c = some (decide (b ≤ a ∧ a ≤ c)) := by
  unfold spec_l1In.f
  by_cases h : a ≥ b
  · rw [if_pos h]; simp [h]
  · rw [if_neg h]; simp [h]

theorem drop_rd (l : List Int) (i : Nat) (h : i < l.length) : l.drop i = rd l (i : Int) :: l.drop (i + 1) := by
  rw [List.drop_eq_getElem_cons h]
  unfold rd
  rw [Int.toNat_natCast, List.getD_eq_getElem?_getD, List.getElem?_eq_getElem h]
  rfl
theorem rd_get (l : List Int) (i : Nat) (h : i < l.length) : rd l (i : Int) = l[i] := by
  unfold rd
  rw [Int.toNat_natCast, List.getD_eq_getElem?_getD, List.getElem?_eq_getElem h]
  rfl
theorem wsucc (i n : Nat) (h : i < n) (hn : n ≤ 9223372036854775807) : wrap64 ((i : Int) + 1) = ((i + 1 : Nat) : Int) := by
  rw [w64 (by omega) (by omega)]; omega
theorem rd_cons_succ (x : Int) (l : List Int) (i : Nat) : rd (x :: l) ((i + 1 : Nat) : Int) = rd l (i : Int) := by
  unfold rd
  simp only [Int.toNat_natCast, List.getD_cons_succ]
theorem rd_cons_zero (x : Int) (l : List Int) : rd (x :: l) 0 = x := rfl

theorem rd_take (l : List Int) (n i : Nat) (h : i < n) : rd (l.take n) (i : Int) = rd l (i : Int) := by
  unfold rd
  rw [Int.toNat_natCast, List.getD_eq_getElem?_getD, List.getD_eq_getElem?_getD, List.getElem?_take_of_lt h]

theorem toIntS_l0 (l : List Int) (hn : l.length ≤ 35184372088832) (d : Nat) : ∀ (i : Nat) (m : List Int), i + d = l.length → m.length = l.length → m.take i = l.take i →
    Ev (fun k => laws_toIntS.l0 k l m (i : Int)) l := by
  induction d with
  | zero =>
    intro i m hi hm ht
    refine Ev.s ?_
    have c : ¬ ((i : Int) < (l.length : Int)) := by omega
    simp only [laws_toIntS.l0, if_neg c]
    rw [List.take_of_length_le (by omega), List.take_of_length_le (by omega)] at ht
    rw [ht]; exact Ev.now _
  | succ d ih =>
    intro i m hi hm ht
    refine Ev.s ?_
    have c1 : ((i : Int) < (l.length : Int)) := by omega
    have c2 : (0 : Int) ≤ (i : Int) := by omega
    have c3 : ((i : Int) < (m.length : Int)) := by omega
    have e := wsucc i l.length (by omega) (by omega)
    simp only [laws_toIntS.l0, if_pos c1, if_pos c2, if_pos c3, e, Int.toNat_natCast]
    refine ih (i + 1) _ (by omega) (by simpa using hm) ?_
    rw [rd_get l i (by omega)]
    rw [List.take_succ_eq_append_getElem (by simp; omega), List.take_set_of_le (by omega), ht, List.take_succ_eq_append_getElem (by omega)]
    simp
theorem toIntS_ev (l : List Int) (hn : l.length ≤ 35184372088832) : Ev (fun k => laws_toIntS.f k l) l := by
  unfold laws_toIntS.f
  have c1 : (0 : Int) ≤ (l.length : Int) := by omega
  have c2 : ((l.length : Int) : Int).toNat ≤ 35184372088832 := by omega
  simp only [if_pos c1, if_pos c2]
  exact toIntS_l0 l hn l.length 0 _ (by omega) (by simp) (by simp)

theorem eqIntS_l0 (l m : List Int) (hl : l.length = m.length) (hn : l.length ≤ 35184372088832) (d : Nat) : ∀ (i : Nat), i + d = l.length →
    Ev (fun k => laws_eqIntS.l0 k l m (i : Int)) (decide (l.drop i = m.drop i)) := by
  induction d with
  | zero =>
    intro i hi
    refine Ev.s ?_
    have c : ¬ ((i : Int) < (l.length : Int)) := by omega
    simp only [laws_eqIntS.l0, if_neg c]
    rw [List.drop_of_length_le (by omega), List.drop_of_length_le (by omega)]
    exact Ev.now _
  | succ d ih =>
    intro i hi
    refine Ev.s ?_
    have c1 : ((i : Int) < (l.length : Int)) := by omega
    have c2 : (0 : Int) ≤ (i : Int) := by omega
    have c3 : ((i : Int) < (m.length : Int)) := by omega
    have e := wsucc i l.length (by omega) (by omega)
    simp only [laws_eqIntS.l0, if_pos c1, if_pos c2, if_pos c3, e]
    rw [drop_rd l i (by omega), drop_rd m i (by omega)]
    by_cases h : rd l (i : Int) = rd m (i : Int)
    · simp only [if_pos h]
      refine Ev.e (ih (i + 1) (by omega)) ?_
      simp [h]
    · simp only [if_neg h]
      have : (decide (rd l (i : Int) :: l.drop (i + 1) = rd m (i : Int) :: m.drop (i + 1))) = false := by
        apply decide_eq_false; intro h'; exact h (List.cons.inj h').1
      rw [this]; exact Ev.now _
theorem eqIntS_ev (l m : List Int) (hn : l.length ≤ 35184372088832) : Ev (fun k => laws_eqIntS.f k l m) (decide (l = m)) := by
  unfold laws_eqIntS.f
  by_cases h : l.length = m.length
  · have c : ((l.length : Int) = (m.length : Int)) := by omega
    simp only [if_pos c]
    exact eqIntS_l0 l m h hn l.length 0 (by omega)
  · have c : ¬ ((l.length : Int) = (m.length : Int)) := by omega
    simp only [if_neg c]
    have : decide (l = m) = false := by apply decide_eq_false; intro e; rw [e] at h; exact h rfl
    rw [this]; exact Ev.now _

/-- Are these degrees? -/
def DegB (l : List Int) : Bool := decide (1 ≤ l.length ∧ l.length ≤ 16) && l.all (fun x => decide (0 ≤ x ∧ x ≤ 16))
theorem l1All_l0 (lo hi : Int) (l : List Int) (hn : l.length ≤ 35184372088832) (d : Nat) : ∀ (i : Nat), i + d = l.length →
    Ev (fun k => spec_l1All.l0 k lo hi l (l.length : Int) (i : Int)) ((l.drop i).all (fun x => decide (lo ≤ x ∧ x ≤ hi))) := by
  induction d with
  | zero =>
    intro i h
    refine Ev.s ?_
    have c : ¬ ((i : Int) < (l.length : Int)) := by omega
    simp only [spec_l1All.l0, if_neg c]
    rw [List.drop_of_length_le (by omega)]
    exact Ev.now _
  | succ d ih =>
    intro i h
    refine Ev.s ?_
    have c1 : ((i : Int) < (l.length : Int)) := by omega
    have c2 : (0 : Int) ≤ (i : Int) := by omega
    have e := wsucc i l.length (by omega) (by omega)
    rw [drop_rd l i (by omega)]
    simp only [spec_l1All.l0, if_pos c1, if_pos c2, e, l1In_eq, Option.bind_some, decide_eq_true_eq, List.all_cons]
    by_cases h' : lo ≤ rd l (i : Int) ∧ rd l (i : Int) ≤ hi
    · simp only [if_pos h', decide_eq_true h', Bool.true_and]
      exact ih (i + 1) (by omega)
    · simp only [if_neg h', decide_eq_false h', Bool.false_and]
      exact Ev.now _
theorem l1All_ev (lo hi : Int) (l : List Int) (hn : l.length ≤ 35184372088832) : Ev (fun k => spec_l1All.f k l lo hi) (l.all (fun x => decide (lo ≤ x ∧ x ≤ hi))) := by
  unfold spec_l1All.f
  exact l1All_l0 lo hi l hn l.length 0 (by omega)
theorem cyGood_ev (l : List Int) (hn : l.length ≤ 35184372088832) : Ev (fun k => spec_cyGood.f k l) (DegB l) := by
  unfold spec_cyGood.f DegB
  simp only [l1In_eq, Option.bind_some, decide_eq_true_eq]
  by_cases h : 1 ≤ l.length ∧ l.length ≤ 16
  · simp only [if_pos (show (1 : Int) ≤ (l.length : Int) ∧ (l.length : Int) ≤ 16 from by omega), decide_eq_true h, Bool.true_and]
    exact Ev.bs (l1All_ev 0 16 l hn) (Ev.now _)
  · simp only [if_neg (show ¬ ((1 : Int) ≤ (l.length : Int) ∧ (l.length : Int) ≤ 16) from by omega), decide_eq_false h, Bool.false_and]
    exact Ev.now _
theorem isDegrees1_eq (x : Int) : impl_IsDegrees_1.f x = some (!decide (0 ≤ x ∧ x ≤ 16)) := by
  unfold impl_IsDegrees_1.f; rw [in_eq]; rfl
theorem indexFunc_l0 (l : List Int) (hn : l.length ≤ 35184372088832) (d : Nat) : ∀ (i : Nat), i + d = l.length →
    ∃ r : Int, Ev (fun k => slices_IndexFunc_int_int.l0 k l (l.length : Int) (i : Int)) r ∧ decide (r ≥ 0) = !(l.drop i).all (fun x => decide (0 ≤ x ∧ x ≤ 16)) := by
  induction d with
  | zero =>
    intro i h
    refine ⟨-1, Ev.s ?_, by rw [List.drop_of_length_le (by omega)]; rfl⟩
    have c : ¬ ((i : Int) < (l.length : Int)) := by omega
    simp only [slices_IndexFunc_int_int.l0, if_neg c]
    exact Ev.now _
  | succ d ih =>
    intro i h
    have c1 : ((i : Int) < (l.length : Int)) := by omega
    have c2 : (0 : Int) ≤ (i : Int) := by omega
    have e := wsucc i l.length (by omega) (by omega)
    rw [drop_rd l i (by omega)]
    by_cases h' : 0 ≤ rd l (i : Int) ∧ rd l (i : Int) ≤ 16
    · obtain ⟨r, hr, hd⟩ := ih (i + 1) (by omega)
      refine ⟨r, Ev.s ?_, by simp only [List.all_cons, decide_eq_true h', Bool.true_and, hd]⟩
      simp only [slices_IndexFunc_int_int.l0, if_pos c1, if_pos c2, e, isDegrees1_eq, Option.bind_some, decide_eq_true h', Bool.not_true, Bool.false_eq_true, if_false]
      exact hr
    · refine ⟨i, Ev.s ?_, by simp only [List.all_cons, decide_eq_false h', Bool.false_and, Bool.not_false]; exact decide_eq_true (by omega)⟩
      simp only [slices_IndexFunc_int_int.l0, if_pos c1, if_pos c2, e, isDegrees1_eq, Option.bind_some, decide_eq_false h', Bool.not_false, if_true]
      exact Ev.now _
theorem isDegrees_ev (l : List Int) (hn : l.length ≤ 35184372088832) : Ev (fun k => impl_IsDegrees.f k l) (DegB l) := by
  unfold impl_IsDegrees.f DegB slices_ContainsFunc_int_int.f slices_IndexFunc_int_int.f
  simp only [in_eq, Option.bind_some, decide_eq_true_eq]
  by_cases h : 1 ≤ l.length ∧ l.length ≤ 16
  · simp only [if_pos (show (1 : Int) ≤ (l.length : Int) ∧ (l.length : Int) ≤ 16 from by omega), decide_eq_true h, Bool.true_and]
    obtain ⟨r, hr, hd⟩ := indexFunc_l0 l hn l.length 0 (by omega)
    rw [List.drop_zero] at hd
    refine Ev.bs (a := decide (r ≥ 0)) (Ev.bs hr (Ev.now _)) (Ev.c ?_)
    rw [hd]; simp
  · simp only [if_neg (show ¬ ((1 : Int) ≤ (l.length : Int) ∧ (l.length : Int) ≤ 16) from by omega), decide_eq_false h, Bool.false_and]
    exact Ev.now _

/-- The excess from a place on. -/
def sumL : List Int → Int
  | [] => 0
  | x :: r => x + sumL r
theorem sumL_append (l m : List Int) : sumL (l ++ m) = sumL l + sumL m := by
  induction l with
  | nil => simp [sumL]
  | cons x r ih => simp only [List.cons_append, sumL, ih]; omega
theorem DegB_iff {l : List Int} (h : DegB l = true) : (1 ≤ l.length ∧ l.length ≤ 16) ∧ ∀ x ∈ l, 0 ≤ x ∧ x ≤ 16 := by
  unfold DegB at h
  simp only [Bool.and_eq_true, decide_eq_true_eq, List.all_eq_true] at h
  exact ⟨h.1, h.2⟩
theorem sumL_bd (l : List Int) (h : ∀ x ∈ l, 0 ≤ x ∧ x ≤ 16) : 0 ≤ sumL l ∧ sumL l ≤ 16 * (l.length : Int) := by
  induction l with
  | nil => simp [sumL]
  | cons x r ih =>
    have := ih (fun y hy => h y (List.mem_cons_of_mem _ hy))
    have hx := h x List.mem_cons_self
    simp only [sumL, List.length_cons]; omega
theorem deg_drop {l : List Int} (h : DegB l = true) (i : Nat) : 0 ≤ sumL (l.drop i) ∧ sumL (l.drop i) ≤ 256 := by
  obtain ⟨h1, h2⟩ := DegB_iff h
  have := sumL_bd (l.drop i) (fun x hx => h2 x (List.mem_of_mem_drop hx))
  rw [List.length_drop] at this
  omega
theorem deg_rd {l : List Int} (h : DegB l = true) (i : Nat) (hi : i < l.length) : 0 ≤ rd l (i : Int) ∧ rd l (i : Int) ≤ 16 := by
  rw [rd_get l i hi]
  exact (DegB_iff h).2 _ (List.getElem_mem _)
/-- The excess of degrees. -/
def Exc (l : List Int) : Int := (l.length : Int) - sumL l
theorem cyExcess_ev (l : List Int) (h : DegB l = true) : Ev (fun k => spec_cyExcess.f k l) (Exc l) := by
  have hl := (DegB_iff h).1
  have key : ∀ (d i : Nat) (x : Int), i + d = l.length → -1000 ≤ x - sumL (l.drop i) ∧ x ≤ 1000 → Ev (fun k => spec_cyExcess.l0 k x l (l.length : Int) (i : Int)) (x - sumL (l.drop i)) := by
    intro d
    induction d with
    | zero =>
      intro i x hi hx
      refine Ev.s ?_
      have c : ¬ ((i : Int) < (l.length : Int)) := by omega
      simp only [spec_cyExcess.l0, if_neg c]
      rw [List.drop_of_length_le (by omega)]
      exact Ev.c (by simp [sumL])
    | succ d ih =>
      intro i x hi hx
      have hr := deg_rd h i (by omega)
      have h0 := deg_drop h (i + 1)
      rw [drop_rd l i (by omega), sumL] at hx ⊢
      refine Ev.s ?_
      have c1 : ((i : Int) < (l.length : Int)) := by omega
      have c2 : (0 : Int) ≤ (i : Int) := by omega
      have e := wsucc i l.length (by omega) (by omega)
      have e2 : wrap64 (x - rd l (i : Int)) = x - rd l (i : Int) := w64 (by omega) (by omega)
      simp only [spec_cyExcess.l0, if_pos c1, if_pos c2, e, e2]
      exact Ev.e (ih (i + 1) (x - rd l (i : Int)) (by omega) (by omega)) (by omega)
  unfold spec_cyExcess.f Exc
  have h0 := deg_drop h 0
  have := key l.length 0 (l.length : Int) (by omega) (by omega)
  rwa [List.drop_zero] at this
theorem excess_ev (l : List Int) (h : DegB l = true) : Ev (fun k => impl_excess.f k l) (Exc l) := by
  have hl := (DegB_iff h).1
  have key : ∀ (d i : Nat) (x : Int), i + d = l.length → -1000 ≤ x - sumL (l.drop i) ∧ x ≤ 1000 → Ev (fun k => impl_excess.l0 k x l (l.length : Int) (i : Int)) (x - sumL (l.drop i)) := by
    intro d
    induction d with
    | zero =>
      intro i x hi hx
      refine Ev.s ?_
      have c : ¬ ((i : Int) < (l.length : Int)) := by omega
      simp only [impl_excess.l0, if_neg c]
      rw [List.drop_of_length_le (by omega)]
      exact Ev.c (by simp [sumL])
    | succ d ih =>
      intro i x hi hx
      have hr := deg_rd h i (by omega)
      have h0 := deg_drop h (i + 1)
      rw [drop_rd l i (by omega), sumL] at hx ⊢
      refine Ev.s ?_
      have c1 : ((i : Int) < (l.length : Int)) := by omega
      have c2 : (0 : Int) ≤ (i : Int) := by omega
      have e := wsucc i l.length (by omega) (by omega)
      have e2 : wrap64 (x - rd l (i : Int)) = x - rd l (i : Int) := w64 (by omega) (by omega)
      simp only [impl_excess.l0, if_pos c1, if_pos c2, e, e2]
      exact Ev.e (ih (i + 1) (x - rd l (i : Int)) (by omega) (by omega)) (by omega)
  unfold impl_excess.f Exc
  have h0 := deg_drop h 0
  have := key l.length 0 (l.length : Int) (by omega) (by omega)
  rwa [List.drop_zero] at this

/-- No sum of the first ones is -r or less. -/
def forB (r : Int) : Int → List Int → Bool
  | _, [] => true
  | s, x :: t => if s + (x - 1) ≤ -r then false else forB r (s + (x - 1)) t
/-- Are degrees a forest? -/
def ForB (l : List Int) : Bool := decide (Exc l ≥ 1) && forB (Exc l) 0 (l.take (l.length - 1))
theorem exc_bd {l : List Int} (h : DegB l = true) : -1000 ≤ Exc l ∧ Exc l ≤ 16 := by
  have h1 := (DegB_iff h).1
  have h0 := deg_drop h 0
  rw [List.drop_zero] at h0
  unfold Exc
  omega
theorem fo_wrap (s x : Int) (i : Nat) (hi : i ≤ 16) (hs : -(i : Int) ≤ s ∧ s ≤ 16 * (i : Int)) (hx : 0 ≤ x ∧ x ≤ 16) : wrap64 (x - 1) = x - 1 ∧ wrap64 (s + (x - 1)) = s + (x - 1) :=
  ⟨w64 (by omega) (by omega), w64 (by omega) (by omega)⟩
theorem fo_inv (s x : Int) (i : Nat) (hs : -(i : Int) ≤ s ∧ s ≤ 16 * (i : Int)) (hx : 0 ≤ x ∧ x ≤ 16) : -((i + 1 : Nat) : Int) ≤ s + (x - 1) ∧ s + (x - 1) ≤ 16 * ((i + 1 : Nat) : Int) := by omega
theorem isForest_ev (l : List Int) (h : DegB l = true) : Ev (fun k => impl_isForest.f k l) (ForB l) := by
  have hl := (DegB_iff h).1
  have hr := exc_bd h
  unfold impl_isForest.f ForB
  refine Ev.bs (excess_ev l h) ?_
  have e1 : wrap64 ((l.length : Int) - 1) = ((l.length - 1 : Nat) : Int) := by rw [w64 (by omega) (by omega)]; omega
  have c1 : (0 : Int) ≤ ((l.length - 1 : Nat) : Int) := by omega
  have c2 : ((l.length - 1 : Nat) : Int) ≤ (l.length : Int) := by omega
  simp only [e1, if_pos c1, if_pos c2, Int.toNat_natCast]
  generalize hr' : Exc l = r at hr
  have hb : ∀ i : Nat, i < (l.take (l.length - 1)).length → 0 ≤ rd (l.take (l.length - 1)) (i : Int) ∧ rd (l.take (l.length - 1)) (i : Int) ≤ 16 := by
    intro i hi
    rw [List.length_take] at hi
    rw [rd_take _ _ _ (by omega)]
    exact deg_rd h i (by omega)
  have hn : (l.take (l.length - 1)).length ≤ 16 := by rw [List.length_take]; omega
  generalize l.take (l.length - 1) = m at hb hn
  clear hr' e1 c1 c2 hl h
  have key : ∀ (d i : Nat) (s : Int), i + d = m.length → -(i : Int) ≤ s ∧ s ≤ 16 * (i : Int) → Ev (fun k => impl_isForest.l0 k r s m (m.length : Int) (i : Int)) (decide (r ≥ 1) && forB r s (m.drop i)) := by
    intro d
    induction d with
    | zero =>
      intro i s hi hs
      refine Ev.s ?_
      have c : ¬ ((i : Int) < (m.length : Int)) := by omega
      simp only [impl_isForest.l0, if_neg c]
      rw [List.drop_of_length_le (by omega)]
      exact Ev.c (by simp [forB])
    | succ d ih =>
      intro i s hi hs
      refine Ev.s ?_
      have hx := hb i (by omega)
      have c1 : ((i : Int) < (m.length : Int)) := by omega
      have c2 : (0 : Int) ≤ (i : Int) := by omega
      have e := wsucc i m.length (by omega) (by omega)
      obtain ⟨w1, w2⟩ := fo_wrap s (rd m (i : Int)) i (by omega) hs hx
      have iv := fo_inv s (rd m (i : Int)) i hs hx
      have w3 : wrap64 (-r) = -r := w64 (by omega) (by omega)
      rw [drop_rd m i (by omega)]
      by_cases t : s + (rd m (i : Int) - 1) ≤ -r
      · simp only [impl_isForest.l0, if_pos c1, if_pos c2, w1, w2, w3, if_pos t, forB, Bool.and_false]
        exact Ev.now _
      · simp only [impl_isForest.l0, if_pos c1, if_pos c2, w1, w2, w3, if_neg t, forB, e]
        exact ih (i + 1) _ (by omega) iv
  have := key m.length 0 0 (by omega) (by omega)
  rwa [List.drop_zero] at this
theorem cyForest_ev (l : List Int) (h : DegB l = true) : Ev (fun k => spec_cyForest.f k l) (ForB l) := by
  have hl := (DegB_iff h).1
  have hr := exc_bd h
  unfold spec_cyForest.f ForB
  refine Ev.bs (cyExcess_ev l h) ?_
  generalize hr' : Exc l = r at hr
  by_cases r1 : r < 1
  · simp only [if_pos r1]
    rw [decide_eq_false (by omega), Bool.false_and]
    exact Ev.now _
  simp only [if_neg r1]
  rw [decide_eq_true (by omega), Bool.true_and]
  have key : ∀ (d i : Nat) (s : Int), i + d = l.length → -(i : Int) ≤ s ∧ s ≤ 16 * (i : Int) → Ev (fun k => spec_cyForest.l0 k l r s l (l.length : Int) (i : Int)) (forB r s ((l.take (l.length - 1)).drop i)) := by
    intro d
    induction d with
    | zero =>
      intro i s hi hs
      refine Ev.s ?_
      have c : ¬ ((i : Int) < (l.length : Int)) := by omega
      simp only [spec_cyForest.l0, if_neg c]
      rw [List.drop_of_length_le (by rw [List.length_take]; omega)]
      exact Ev.now _
    | succ d ih =>
      intro i s hi hs
      refine Ev.s ?_
      have hx := deg_rd h i (by omega)
      have c1 : ((i : Int) < (l.length : Int)) := by omega
      have c2 : (0 : Int) ≤ (i : Int) := by omega
      have e := wsucc i l.length (by omega) (by omega)
      obtain ⟨w1, w2⟩ := fo_wrap s (rd l (i : Int)) i (by omega) hs hx
      have iv := fo_inv s (rd l (i : Int)) i hs hx
      have w3 : wrap64 (-r) = -r := w64 (by omega) (by omega)
      have hi' := ih (i + 1) (s + (rd l (i : Int) - 1)) (by omega) iv
      by_cases last : i + 1 < l.length
      · have c4 : ((i + 1 : Nat) : Int) < (l.length : Int) := by omega
        rw [drop_rd (l.take (l.length - 1)) i (by rw [List.length_take]; omega), rd_take _ _ _ (by omega)]
        by_cases t : s + (rd l (i : Int) - 1) ≤ -r
        · simp only [spec_cyForest.l0, if_pos c1, if_pos c2, w1, w2, w3, if_pos t, e, if_pos c4, forB]
          exact Ev.now _
        · simp only [spec_cyForest.l0, if_pos c1, if_pos c2, w1, w2, w3, if_neg t, e, forB]
          exact hi'
      · have c4 : ¬ ((i + 1 : Nat) : Int) < (l.length : Int) := by omega
        rw [List.drop_of_length_le (by rw [List.length_take]; omega)]
        rw [List.drop_of_length_le (by rw [List.length_take]; omega)] at hi'
        by_cases t : s + (rd l (i : Int) - 1) ≤ -r
        · simp only [spec_cyForest.l0, if_pos c1, if_pos c2, w1, w2, w3, if_pos t, e, if_neg c4]
          exact hi'
        · simp only [spec_cyForest.l0, if_pos c1, if_pos c2, w1, w2, w3, if_neg t, e]
          exact hi'
  have := key l.length 0 0 (by omega) (by omega)
  rwa [List.drop_zero] at this

theorem rd_last (a : List Int) (x : Int) : rd (a ++ [x]) (a.length : Int) = x := by
  unfold rd
  rw [Int.toNat_natCast, List.getD_eq_getElem?_getD, List.getElem?_append_right (Nat.le_refl _), Nat.sub_self]
  rfl
theorem rd_app (a b : List Int) (i : Int) (h0 : 0 ≤ i) (h : i < (a.length : Int)) : rd (a ++ b) i = rd a i := by
  unfold rd
  rw [List.getD_eq_getElem?_getD, List.getD_eq_getElem?_getD, List.getElem?_append_left (by omega)]
theorem take_last (a : List Int) (x : Int) : (a ++ [x]).take a.length = a := by
  rw [List.take_append_of_le_length (Nat.le_refl _), List.take_length]
theorem set_last (a : List Int) (x y : Int) : (a ++ [x]).set a.length y = a ++ [y] := by
  rw [List.set_append_right _ _ (Nat.le_refl _), Nat.sub_self]
  rfl
theorem last_len (a : List Int) (x : Int) (h : a.length ≤ 1000) : wrap64 (((a ++ [x]).length : Int) - 1) = (a.length : Int) := by
  rw [List.length_append, List.length_singleton, w64 (by omega) (by omega)]; omega

/-- The used-up ones off the top. -/
def popZ (left : List Int) : List Int → List Int
  | [] => []
  | j :: r => if rd left j = 0 then popZ left r else j :: r
theorem popZ_sub (left : List Int) : ∀ (st : List Int) (x : Int), x ∈ popZ left st → x ∈ st
  | j :: r, x, h => by
    unfold popZ at h
    by_cases c : rd left j = 0
    · rw [if_pos c] at h; exact List.mem_cons_of_mem _ (popZ_sub left r x h)
    · rwa [if_neg c] at h
theorem popZ_len (left : List Int) : ∀ (st : List Int), (popZ left st).length ≤ st.length
  | [] => Nat.le_refl _
  | j :: r => by
    unfold popZ
    by_cases c : rd left j = 0
    · rw [if_pos c, List.length_cons]; exact Nat.le_succ_of_le (popZ_len left r)
    · rw [if_neg c]; exact Nat.le_refl _
theorem popZ_pw (left : List Int) : ∀ (st : List Int), st.Pairwise (fun a b => b < a) → (popZ left st).Pairwise (fun a b => b < a)
  | [], h => h
  | j :: r, h => by
    unfold popZ
    by_cases c : rd left j = 0
    · rw [if_pos c]; exact popZ_pw left r (List.pairwise_cons.1 h).2
    · rw [if_neg c]; exact h
theorem popZ_top (left : List Int) : ∀ (st r : List Int) (j : Int), popZ left st = j :: r → rd left j ≠ 0
  | a :: s, r, j, h => by
    unfold popZ at h
    by_cases c : rd left a = 0
    · rw [if_pos c] at h; exact popZ_top left s r j h
    · rw [if_neg c] at h
      injection h with h1 h2
      rwa [← h1]
theorem popZ_idem (left : List Int) : ∀ (st : List Int), popZ left (popZ left st) = popZ left st
  | [] => rfl
  | j :: r => by
    by_cases c : rd left j = 0
    · rw [show popZ left (j :: r) = popZ left r from if_pos c]; exact popZ_idem left r
    · rw [show popZ left (j :: r) = j :: r from if_neg c, show popZ left (j :: r) = j :: r from if_neg c]
/-- The parents, from a place on. -/
def PR : Nat → Int → List Int → List Int → List Int → List Int
  | 0, _, par, _, _ => par
  | d + 1, i, par, left, st => match popZ left st with
    | [] => PR d (i + 1) (par ++ [-1]) left [i]
    | j :: r => PR d (i + 1) (par ++ [j]) (left.set j.toNat (rd left j - 1)) (i :: j :: r)
theorem PR_nil (d : Nat) (i : Int) (par left st : List Int) (h : popZ left st = []) : PR (d + 1) i par left st = PR d (i + 1) (par ++ [-1]) left [i] := by
  show (match popZ left st with | [] => PR d (i + 1) (par ++ [-1]) left [i] | j :: r => PR d (i + 1) (par ++ [j]) (left.set j.toNat (rd left j - 1)) (i :: j :: r)) = _
  rw [h]
theorem PR_cons (d : Nat) (i j : Int) (par left st r : List Int) (h : popZ left st = j :: r) : PR (d + 1) i par left st = PR d (i + 1) (par ++ [j]) (left.set j.toNat (rd left j - 1)) (i :: j :: r) := by
  show (match popZ left st with | [] => PR d (i + 1) (par ++ [-1]) left [i] | j :: r => PR d (i + 1) (par ++ [j]) (left.set j.toNat (rd left j - 1)) (i :: j :: r)) = _
  rw [h]
/-- What holds of the stack and the counts at a place. -/
structure PInv (n i : Nat) (left st : List Int) : Prop where
  len : left.length = n
  small : n ≤ 16
  num : ∀ x ∈ left, 0 ≤ x ∧ x ≤ 16
  inn : ∀ x ∈ st, 0 ≤ x ∧ x < (i : Int)
  pw : st.Pairwise (fun a b => b < a)
  sl : st.length ≤ i
theorem PInv.rdn {n i : Nat} {left st : List Int} (h : PInv n i left st) (j : Nat) (hj : j < n) : 0 ≤ rd left (j : Int) ∧ rd left (j : Int) ≤ 16 := by
  rw [rd_get left j (by rw [h.len]; exact hj)]
  exact h.num _ (List.getElem_mem _)
theorem PInv.pop {n i : Nat} {left st : List Int} (h : PInv n i left st) : PInv n i left (popZ left st) :=
  ⟨h.len, h.small, h.num, fun x hx => h.inn x (popZ_sub left st x hx), popZ_pw left st h.pw, Nat.le_trans (popZ_len left st) h.sl⟩
theorem PInv.tail {n i : Nat} {left st : List Int} {j : Int} (h : PInv n i left (j :: st)) : PInv n i left st :=
  ⟨h.len, h.small, h.num, fun x hx => h.inn x (List.mem_cons_of_mem _ hx), (List.pairwise_cons.1 h.pw).2, by have := h.sl; rw [List.length_cons] at this; omega⟩
theorem PInv.one {n i : Nat} {left : List Int} (h : PInv n i left []) : PInv n (i + 1) left [(i : Int)] :=
  ⟨h.len, h.small, h.num, fun x hx => by rw [List.mem_singleton] at hx; omega, List.pairwise_singleton _ _, by rw [List.length_singleton]; omega⟩
theorem PInv.push {n i : Nat} {left st : List Int} {j : Int} (h : PInv n i left (j :: st)) (hi : i < n) (hz : rd left j ≠ 0) : PInv n (i + 1) (left.set j.toNat (rd left j - 1)) ((i : Int) :: j :: st) := by
  have hj := h.inn j (List.mem_cons_self ..)
  have hr := h.rdn j.toNat (by omega)
  rw [show ((j.toNat : Nat) : Int) = j from by omega] at hr
  refine ⟨by rw [List.length_set]; exact h.len, h.small, fun x hx => ?_, fun x hx => ?_, List.pairwise_cons.2 ⟨fun x hx => (h.inn x hx).2, h.pw⟩, ?_⟩
  · rcases List.mem_or_eq_of_mem_set hx with hx | rfl
    · exact h.num x hx
    · omega
  · rcases List.mem_cons.1 hx with rfl | hx
    · omega
    · have := h.inn x hx; omega
  · have := h.sl
    rw [List.length_cons] at this ⊢
    rw [List.length_cons]; omega
/-- The parents of a list of degrees. -/
def PAR (l : List Int) : List Int := PR l.length 0 [] l []
theorem PInv_start {l : List Int} (h : DegB l = true) : PInv l.length 0 l [] :=
  ⟨rfl, (DegB_iff h).1.2, (DegB_iff h).2, fun _ hx => absurd hx List.not_mem_nil, List.Pairwise.nil, Nat.le_refl _⟩

theorem map_rd_set (left : List Int) (j v : Int) (hj : 0 ≤ j) (hl : j < (left.length : Int)) : ∀ (r : List Int), (∀ x ∈ r, 0 ≤ x ∧ x < j) → r.map (rd (left.set j.toNat v)) = r.map (rd left)
  | [], _ => rfl
  | x :: r, h => by
    have hx := h x (List.mem_cons_self ..)
    rw [List.map_cons, List.map_cons, map_rd_set left j v hj hl r (fun y hy => h y (List.mem_cons_of_mem _ hy)), rd_set left j x v hj hx.1 hl, if_neg (by omega)]
theorem cyDown (n m : Nat) (h : m = n) (hn : n ≤ 1000) : wrap64 ((m : Int) - 1) = (n : Int) - 1 := by rw [h, w64 (by omega) (by omega)]
/-- The popping loop. -/
theorem cyPop (n i : Nat) (arr left d : List Int) (hi : i < n) (R : List Int) : ∀ (st : List Int), PInv n (i + 1) left st →
    Ev (fun k => spec_cyParents.l0 k arr (popZ left st).reverse ((popZ left st).map (rd left)).reverse d (n : Int) ((i + 1 : Nat) : Int)) R →
    Ev (fun k => spec_cyParents.l1 k arr st.reverse (st.map (rd left)).reverse ((st.length : Int) - 1) d (n : Int) (i : Int)) R := by
  intro st
  induction st with
  | nil =>
    intro h hR
    refine Ev.s ?_
    have c : ¬ ((([] : List Int).length : Int) - 1 ≥ 0) := by rw [List.length_nil]; omega
    simp only [spec_cyParents.l1, if_neg c, wsucc i n hi (by have := h.small; omega)]
    exact hR
  | cons j r ih =>
    intro h hR
    refine Ev.s ?_
    have hsl := h.sl
    have hsm := h.small
    rw [List.length_cons] at hsl
    have hx : ((j :: r).length : Int) - 1 = ((r.map (rd left)).reverse.length : Int) := by simp
    have hx2 : (r.map (rd left)).reverse.length = r.reverse.length := by simp
    have hx3 : (r.map (rd left)).reverse.length = r.length := by simp
    have e2 := rd_last (r.map (rd left)).reverse (rd left j)
    have c1 : (((r.map (rd left)).reverse.length : Nat) : Int) ≥ 0 := by omega
    have c3 : (((r.map (rd left)).reverse.length : Nat) : Int) < (((r.map (rd left)).reverse ++ [rd left j]).length : Int) := by rw [List.length_append, List.length_singleton]; omega
    have c4 : (((r.map (rd left)).reverse.length : Nat) : Int) ≤ (((r.map (rd left)).reverse ++ [rd left j]).length : Int) := by omega
    have c5 : (((r.map (rd left)).reverse.length : Nat) : Int) ≤ ((r.reverse ++ [j]).length : Int) := by rw [hx2, List.length_append, List.length_singleton]; omega
    have e3 := take_last (r.map (rd left)).reverse (rd left j)
    have e4 : (r.reverse ++ [j]).take (r.map (rd left)).reverse.length = r.reverse := by rw [hx2]; exact take_last _ _
    have hrl : r.length ≤ 1000 := by omega
    have w2 := cyDown r.length _ hx3 hrl
    have w := wsucc i n hi (by clear w2; omega)
    rw [hx, List.reverse_cons, List.map_cons, List.reverse_cons]
    by_cases z : rd left j = 0
    · rw [show popZ left (j :: r) = popZ left r from if_pos z] at hR
      simp only [spec_cyParents.l1, if_pos c1, if_pos c3, if_pos c4, if_pos c5, e2, if_pos z, Int.toNat_natCast, e3, e4, w2]
      exact ih h.tail hR
    · rw [show popZ left (j :: r) = j :: r from if_neg z, List.reverse_cons, List.map_cons, List.reverse_cons] at hR
      simp only [spec_cyParents.l1, if_pos c1, if_pos c3, e2, if_neg z, w]
      exact hR
theorem cyJ1 (n i : Nat) (arr left st d : List Int) (hi : i < n) (R : List Int) (h : PInv n (i + 1) left ((i : Int) :: st)) (x : Int) (hx : rd left (i : Int) = x)
    (hR : Ev (fun k => spec_cyParents.l0 k arr (popZ left ((i : Int) :: st)).reverse ((popZ left ((i : Int) :: st)).map (rd left)).reverse d (n : Int) ((i + 1 : Nat) : Int)) R) :
    Ev (fun k => spec_cyParents.j1 k arr st.reverse (st.map (rd left)).reverse (i : Int) x d (n : Int) (i : Int)) R := by
  refine Ev.s ?_
  have hsl := h.sl
  have hsm := h.small
  rw [List.length_cons] at hsl
  have c1 : st.reverse.length < 17592186044416 := by rw [List.length_reverse]; omega
  have c2 : (st.map (rd left)).reverse.length < 17592186044416 := by rw [List.length_reverse, List.length_map]; omega
  have w : wrap64 (((st.reverse ++ [(i : Int)]).length : Int) - 1) = ((((i : Int) :: st).length : Nat) : Int) - 1 := by
    rw [last_len _ _ (by rw [List.length_reverse]; omega), List.length_reverse, List.length_cons]; omega
  simp only [spec_cyParents.j1, if_pos c1, if_pos c2, Option.bind_some, w]
  have := cyPop n i arr left d hi R ((i : Int) :: st) h hR
  rw [List.reverse_cons, List.map_cons, List.reverse_cons, hx] at this
  exact this
theorem rep_set (par : List Int) (m : Nat) (v x : Int) : (par ++ v :: List.replicate m 0).set par.length x = par ++ x :: List.replicate m 0 := by
  rw [List.set_append_right _ _ (Nat.le_refl _), Nat.sub_self]
  rfl
theorem cyParents_l0 (l : List Int) (n : Nat) (hn : l.length = n) (R : List Int) : ∀ (d i : Nat) (par left st : List Int), i + d = n → par.length = i → PInv n i left st → popZ left st = st →
    (∀ j : Nat, i ≤ j → j < n → rd left (j : Int) = rd l (j : Int)) → PR d (i : Int) par left st = R →
    Ev (fun k => spec_cyParents.l0 k (par ++ List.replicate d 0) st.reverse (st.map (rd left)).reverse l (n : Int) (i : Int)) R := by
  intro d
  induction d with
  | zero =>
    intro i par left st hi hp h hpop hsame hR
    refine Ev.s ?_
    have c : ¬ ((i : Int) < (n : Int)) := by omega
    simp only [spec_cyParents.l0, if_neg c]
    rw [List.replicate_zero, List.append_nil, ← hR]
    exact Ev.now _
  | succ d ih =>
    intro i par left st hi hp h hpop hsame hR
    have hsm := h.small
    have hsl := h.sl
    have c1 : ((i : Int) < (n : Int)) := by omega
    have c2 : (0 : Int) ≤ (i : Int) := by omega
    have c3 : ((i : Int) < (l.length : Int)) := by omega
    have c4 : ((i : Int) < ((par ++ List.replicate (d + 1) 0).length : Int)) := by rw [List.length_append, List.length_replicate]; omega
    have s1 : (par ++ List.replicate (d + 1) 0).set i (-1) = par ++ (-1) :: List.replicate d 0 := by
      rw [List.replicate_succ, ← hp, rep_set]
    cases st with
    | nil =>
      refine Ev.s ?_
      have w : wrap64 ((([] : List Int).length : Int) - 1) = -1 := by rw [List.length_nil, w64 (by omega) (by omega)]; omega
      have c5 : ¬ ((-1 : Int) ≥ 0) := by omega
      simp only [spec_cyParents.l0, if_pos c1, if_pos c2, if_pos c3, if_pos c4, Option.bind_some, List.reverse_nil, w, if_neg c5, Int.toNat_natCast, s1]
      rw [PR_nil _ _ _ _ _ rfl, ← Int.natCast_succ] at hR
      have hi1 := h.one
      have := cyJ1 n i (par ++ (-1) :: List.replicate d 0) left [] l (by omega) R hi1 (rd l (i : Int)) (hsame i (Nat.le_refl _) (by omega)) ?_
      · exact this
      · have := ih (i + 1) (par ++ [-1]) left (popZ left [(i : Int)]) (by omega) (by rw [List.length_append, List.length_singleton, hp]) hi1.pop (popZ_idem _ _) (fun j hj hj2 => hsame j (by omega) hj2) (by
          rw [← hR]
          cases d with
          | zero => rfl
          | succ d =>
            cases hc : popZ left [(i : Int)] with
            | nil => rw [PR_nil _ _ _ _ _ hc, PR_nil _ _ _ _ _ rfl]
            | cons a s =>
              have hid := popZ_idem left [(i : Int)]
              rw [hc] at hid
              rw [PR_cons _ _ _ _ _ _ _ hc, PR_cons _ _ _ _ _ _ _ hid])
        rw [List.append_assoc] at this
        exact this
    | cons j r =>
      rw [List.length_cons] at hsl
      refine Ev.s ?_
      have hj := h.inn j (List.mem_cons_self ..)
      have hlen := h.len
      have hz := popZ_top left _ _ _ hpop
      have hr := h.rdn j.toNat (by omega)
      rw [show ((j.toNat : Nat) : Int) = j from by omega] at hr
      have w := last_len r.reverse j (by rw [List.length_reverse]; omega)
      have hx2 : (r.map (rd left)).reverse.length = r.reverse.length := by simp
      have c5 : ((r.reverse.length : Nat) : Int) ≥ 0 := by omega
      have c6 : ((r.reverse.length : Nat) : Int) < ((r.reverse ++ [j]).length : Int) := by rw [List.length_append, List.length_singleton]; omega
      have c7 : ((r.reverse.length : Nat) : Int) < (((r.map (rd left)).reverse ++ [rd left j]).length : Int) := by rw [List.length_append, List.length_singleton, hx2]; omega
      have e2 := rd_last r.reverse j
      have e3 : rd ((r.map (rd left)).reverse ++ [rd left j]) ((r.reverse.length : Nat) : Int) = rd left j := by rw [← hx2]; exact rd_last _ _
      have w2 := w64 (n := rd left j - 1) (by omega) (by omega)
      have s2 : ((r.map (rd left)).reverse ++ [rd left j]).set r.reverse.length (rd left j - 1) = (r.map (rd left)).reverse ++ [rd left j - 1] := by rw [← hx2]; exact set_last _ _ _
      have s3 : (par ++ (-1) :: List.replicate d 0).set i j = par ++ j :: List.replicate d 0 := by rw [← hp]; exact rep_set _ _ _ _
      rw [List.reverse_cons, List.map_cons, List.reverse_cons]
      simp only [spec_cyParents.l0, if_pos c1, if_pos c2, if_pos c3, if_pos c4, Option.bind_some, w, if_pos c5, if_pos c6, if_pos c7, e2, e3, w2, Int.toNat_natCast, s1, s2, s3]
      rw [PR_cons _ _ _ _ _ _ _ hpop, ← Int.natCast_succ] at hR
      have hi1 := h.push (by omega) hz
      generalize hL : left.set j.toNat (rd left j - 1) = left' at hR hi1
      have hmr : r.map (rd left') = r.map (rd left) := by
        rw [← hL]
        exact map_rd_set left j _ hj.1 (by omega) r (fun x hx => ⟨(h.inn x (List.mem_cons_of_mem _ hx)).1, (List.pairwise_cons.1 h.pw).1 x hx⟩)
      have hjj : rd left' j = rd left j - 1 := by
        rw [← hL, rd_set left j j _ hj.1 hj.1 (by omega), if_pos rfl]
      have hsame' : ∀ m : Nat, i ≤ m → m < n → rd left' (m : Int) = rd l (m : Int) := fun m hm hm2 => by
        rw [← hL, rd_set left j m _ hj.1 (by omega) (by omega), if_neg (by omega)]
        exact hsame m hm hm2
      have := cyJ1 n i (par ++ j :: List.replicate d 0) left' (j :: r) l (by omega) R hi1 (rd l (i : Int)) (hsame' i (Nat.le_refl _) (by omega)) ?_
      · rw [List.reverse_cons, List.map_cons, List.reverse_cons, hmr, hjj] at this
        exact this
      · have := ih (i + 1) (par ++ [j]) left' (popZ left' ((i : Int) :: j :: r)) (by omega) (by rw [List.length_append, List.length_singleton, hp]) hi1.pop (popZ_idem _ _) (fun m hm hm2 => hsame' m (by omega) hm2) (by
          rw [← hR]
          cases d with
          | zero => rfl
          | succ d =>
            cases hc : popZ left' ((i : Int) :: j :: r) with
            | nil => rw [PR_nil _ _ _ _ _ hc, PR_nil _ _ _ _ _ rfl]
            | cons a s =>
              have hid := popZ_idem left' ((i : Int) :: j :: r)
              rw [hc] at hid
              rw [PR_cons _ _ _ _ _ _ _ hc, PR_cons _ _ _ _ _ _ _ hid])
        rw [List.append_assoc] at this
        exact this
theorem cyParents_ev (l : List Int) (h : DegB l = true) : Ev (fun k => spec_cyParents.f k l) (PAR l) := by
  have hl := (DegB_iff h).1
  unfold spec_cyParents.f
  have c1 : (0 : Int) ≤ (l.length : Int) := by omega
  have c2 : l.length ≤ 35184372088832 := by omega
  simp only [if_pos c1, if_pos c2, Int.toNat_natCast]
  exact cyParents_l0 l l.length rfl (PAR l) l.length 0 [] l [] (by omega) rfl (PInv_start h) rfl (fun _ _ _ => rfl) rfl

theorem cyIs_ev (l : List Int) (hn : l.length ≤ 35184372088832) : Ev (fun k => spec_cyIs.f k l) (DegB l && ForB l) := by
  unfold spec_cyIs.f
  refine Ev.bs (cyGood_ev l hn) ?_
  by_cases hd : DegB l = true
  · simp only [hd, Bool.true_and]; exact Ev.bs (cyForest_ev l hd) (Ev.now _)
  · simp only [Bool.not_eq_true _ ▸ hd, Bool.false_and]; exact Ev.now _
theorem areForest_ev (l : List Int) (hn : l.length ≤ 35184372088832) : Ev (fun k => impl_areForest.f k l) (DegB l && ForB l) := by
  unfold impl_areForest.f
  refine Ev.bs (isDegrees_ev l hn) ?_
  by_cases hd : DegB l = true
  · simp only [hd, Bool.true_and]; exact Ev.bs (isForest_ev l hd) (Ev.now _)
  · simp only [Bool.not_eq_true _ ▸ hd, Bool.false_and]; exact Ev.now _

theorem PR_props : ∀ (d i n : Nat) (par left st : List Int), i + d = n → par.length = i → PInv n i left st → (∀ m : Nat, m < i → -1 ≤ rd par (m : Int) ∧ rd par (m : Int) < (m : Int)) →
    (PR d (i : Int) par left st).length = n ∧ ∀ m : Nat, m < n → -1 ≤ rd (PR d (i : Int) par left st) (m : Int) ∧ rd (PR d (i : Int) par left st) (m : Int) < (m : Int) := by
  intro d
  induction d with
  | zero =>
    intro i n par left st hi hp h hm
    refine ⟨by show par.length = n; omega, fun m hmn => hm m (by omega)⟩
  | succ d ih =>
    intro i n par left st hi hp h hm
    have step : ∀ v : Int, -1 ≤ v ∧ v < (i : Int) → ∀ m : Nat, m < i + 1 → -1 ≤ rd (par ++ [v]) (m : Int) ∧ rd (par ++ [v]) (m : Int) < (m : Int) := by
      intro v hv m hm2
      by_cases c : m = i
      · rw [c]
        have := rd_last par v
        rw [hp] at this
        rw [this]; exact hv
      · rw [rd_app par [v] m (by omega) (by omega)]
        exact hm m (by omega)
    cases hc : popZ left st with
    | nil =>
      rw [PR_nil _ _ _ _ _ hc, ← Int.natCast_succ]
      have hpop := h.pop
      rw [hc] at hpop
      exact ih (i + 1) n _ _ _ (by omega) (by rw [List.length_append, List.length_singleton, hp]) hpop.one (step (-1) (by omega))
    | cons j r =>
      rw [PR_cons _ _ _ _ _ _ _ hc, ← Int.natCast_succ]
      have hpop := h.pop
      have hz := popZ_top left _ _ _ hc
      rw [hc] at hpop
      have hj := hpop.inn j (List.mem_cons_self ..)
      exact ih (i + 1) n _ _ _ (by omega) (by rw [List.length_append, List.length_singleton, hp]) (hpop.push (by omega) hz) (step j (by omega))
theorem PAR_props (l : List Int) (h : DegB l = true) : (PAR l).length = l.length ∧ ∀ m : Nat, m < l.length → -1 ≤ rd (PAR l) (m : Int) ∧ rd (PAR l) (m : Int) < (m : Int) :=
  PR_props l.length 0 l.length [] l [] (by omega) rfl (PInv_start h) (fun m hm => by omega)

/-- The depths, from a place on. -/
def DP : List Int → List Int → List Int
  | a, [] => a
  | a, p :: r => DP (a ++ [if p < 0 then 0 else rd a p + 1]) r
theorem DP_len : ∀ (r a : List Int), (DP a r).length = a.length + r.length
  | [], _ => rfl
  | p :: r, a => by rw [DP, DP_len r, List.length_append, List.length_singleton, List.length_cons]; omega
theorem dp_bd (a : List Int) (i : Nat) (p : Int) (ha : a.length = i) (hb : ∀ m : Nat, m < i → 0 ≤ rd a (m : Int) ∧ rd a (m : Int) ≤ (m : Int)) (hp : p < (i : Int)) :
    ∀ m : Nat, m < i + 1 → 0 ≤ rd (a ++ [if p < 0 then 0 else rd a p + 1]) (m : Int) ∧ rd (a ++ [if p < 0 then 0 else rd a p + 1]) (m : Int) ≤ (m : Int) := by
  intro m hm
  by_cases c : m = i
  · rw [c]
    have := rd_last a (if p < 0 then 0 else rd a p + 1)
    rw [ha] at this
    rw [this]
    by_cases z : p < 0
    · rw [if_pos z]; omega
    · rw [if_neg z]
      have := hb p.toNat (by omega)
      rw [show ((p.toNat : Nat) : Int) = p from by omega] at this
      omega
  · rw [rd_app a _ m (by omega) (by omega)]
    exact hb m (by omega)

theorem cyDepths_l0 (P : List Int) (hP : P.length ≤ 16) (hpp : ∀ m : Nat, m < P.length → -1 ≤ rd P (m : Int) ∧ rd P (m : Int) < (m : Int)) : ∀ (d i : Nat) (a : List Int), i + d = P.length → a.length = i → (∀ m : Nat, m < i → 0 ≤ rd a (m : Int) ∧ rd a (m : Int) ≤ (m : Int)) →
    Ev (fun k => spec_cyDepths.l0 k (a ++ List.replicate d 0) P (P.length : Int) (i : Int)) (DP a (P.drop i)) := by
  intro d
  induction d with
  | zero =>
    intro i a hi ha hb
    refine Ev.s ?_
    have c : ¬ ((i : Int) < (P.length : Int)) := by omega
    simp only [spec_cyDepths.l0, if_neg c]
    rw [List.drop_of_length_le (by omega), List.replicate_zero, List.append_nil]
    exact Ev.now _
  | succ d ih =>
    intro i a hi ha hb
    have hp := hpp i (by omega)
    have c1 : ((i : Int) < (P.length : Int)) := by omega
    have c2 : (0 : Int) ≤ (i : Int) := by omega
    have c4 : ((i : Int) < ((a ++ List.replicate (d + 1) 0).length : Int)) := by rw [List.length_append, List.length_replicate]; omega
    have hnext := ih (i + 1) (a ++ [if rd P (i : Int) < 0 then 0 else rd a (rd P (i : Int)) + 1]) (by omega) (by rw [List.length_append, List.length_singleton, ha]) (dp_bd a i _ ha hb hp.2)
    rw [drop_rd P i (by omega), DP]
    refine Ev.s ?_
    by_cases z : rd P (i : Int) < 0
    · have z' : ¬ (rd P (i : Int) ≥ 0) := by omega
      rw [if_pos z] at hnext ⊢
      simp only [spec_cyDepths.l0, if_pos c1, if_pos c2, if_neg z', wsucc i 16 (by omega) (by omega)]
      rw [List.append_assoc] at hnext
      exact hnext
    · rw [if_neg z] at hnext ⊢
      have c5 : rd P (i : Int) ≥ 0 := by omega
      have c6 : rd P (i : Int) < ((a ++ List.replicate (d + 1) 0).length : Int) := by omega
      have hr := hb (rd P (i : Int)).toNat (by omega)
      rw [show (((rd P (i : Int)).toNat : Nat) : Int) = rd P (i : Int) from by omega] at hr
      have e := rd_app a (List.replicate (d + 1) 0) (rd P (i : Int)) c5 (by omega)
      have w := w64 (n := rd a (rd P (i : Int)) + 1) (by omega) (by omega)
      have s : (a ++ List.replicate (d + 1) 0).set i (rd a (rd P (i : Int)) + 1) = a ++ (rd a (rd P (i : Int)) + 1) :: List.replicate d 0 := by
        rw [List.replicate_succ, ← ha]; exact rep_set _ _ _ _
      simp only [spec_cyDepths.l0, if_pos c1, if_pos c2, if_pos c5, if_pos c4, if_pos c6, e, w, Int.toNat_natCast, s, wsucc i 16 (by omega) (by omega)]
      rw [List.append_assoc] at hnext
      exact hnext
theorem cyDepths_ev (l : List Int) (h : DegB l = true) : Ev (fun k => spec_cyDepths.f k l) (DP [] (PAR l)) := by
  have hl := (DegB_iff h).1
  obtain ⟨hp1, hp2⟩ := PAR_props l h
  unfold spec_cyDepths.f
  have c1 : (0 : Int) ≤ (l.length : Int) := by omega
  have c2 : l.length ≤ 35184372088832 := by omega
  simp only [if_pos c1, if_pos c2, Int.toNat_natCast]
  refine Ev.bs (cyParents_ev l h) ?_
  have := cyDepths_l0 (PAR l) (by omega) (fun m hm => hp2 m (by omega)) (PAR l).length 0 [] (by omega) rfl (fun m hm => by omega)
  rw [List.drop_zero, List.nil_append, hp1] at this
  rw [hp1]
  exact this

/-- An ordered forest, by its first tree's children and the rest. -/
inductive F where
  | nil : F
  | node : F → F → F
namespace F
/-- Its path. -/
def word : F → List UInt8
  | nil => []
  | node a b => 85 :: (word a ++ 68 :: word b)
/-- How many trees. -/
def cnt : F → Int
  | nil => 0
  | node _ b => 1 + cnt b
/-- The degrees of its nodes. -/
def tl : F → List Int
  | nil => []
  | node a b => cnt a :: (tl a ++ tl b)
theorem tl_len : ∀ f : F, 2 * (tl f).length = (word f).length
  | nil => rfl
  | node a b => by
    have := tl_len a
    have := tl_len b
    simp only [tl, word, List.length_cons, List.length_append]
    omega
theorem cnt_bd : ∀ f : F, 0 ≤ cnt f ∧ cnt f ≤ ((word f).length : Int)
  | nil => by simp [cnt, word]
  | node a b => by
    have := cnt_bd b
    simp only [cnt, word, List.length_cons, List.length_append]
    omega
end F

theorem F.cnt0 : ∀ f : F, f.cnt = 0 → f = .nil
  | .nil, _ => rfl
  | .node a b, h => by
    have := F.cnt_bd b
    simp only [F.cnt] at h
    omega
theorem F.split : ∀ (g : F) (x : Int), 0 ≤ x → x ≤ g.cnt → ∃ a b : F, a.cnt = x ∧ b.cnt = g.cnt - x ∧ g.tl = a.tl ++ b.tl
  | .nil, x, h0, h1 => ⟨.nil, .nil, by simp only [F.cnt] at h1 ⊢; omega, by simp only [F.cnt] at h1 ⊢; omega, rfl⟩
  | .node a b, x, h0, h1 => by
    by_cases z : x = 0
    · exact ⟨.nil, .node a b, by simp only [F.cnt]; omega, by omega, rfl⟩
    · simp only [F.cnt] at h1
      obtain ⟨c, d, hc, hd, he⟩ := F.split b (x - 1) (by omega) (by omega)
      refine ⟨.node a c, d, by simp only [F.cnt]; omega, by simp only [F.cnt]; omega, ?_⟩
      simp only [F.tl, he, List.append_assoc, List.cons_append]
/-- Degrees, read with a need. -/
def PD : Int → List Int → Prop
  | m, [] => m = 0
  | m, x :: r => 1 ≤ m ∧ 0 ≤ x ∧ PD (m + (x - 1)) r
theorem F.ofPD : ∀ (l : List Int) (m : Int), PD m l → ∃ f : F, f.cnt = m ∧ l = f.tl
  | [], m, h => ⟨.nil, by have : m = 0 := h; rw [this]; rfl, rfl⟩
  | x :: r, m, h => by
    obtain ⟨h1, h2, h3⟩ := h
    obtain ⟨g, hg, hr⟩ := F.ofPD r _ h3
    obtain ⟨a, b, ha, hb, he⟩ := F.split g x h2 (by omega)
    refine ⟨.node a b, by simp only [F.cnt]; omega, ?_⟩
    simp only [F.tl, ha, hr, he]
theorem PD_of : ∀ (l : List Int) (s : Int), l ≠ [] → (∀ x ∈ l, 0 ≤ x) → 0 ≤ s → forB 1 s (l.take (l.length - 1)) = true → 1 + s + sumL l - (l.length : Int) = 0 → PD (1 + s) l
  | [], _, h, _, _, _, _ => absurd rfl h
  | [x], s, _, hx, hs, _, ht => by
    have := hx x (List.mem_cons_self ..)
    refine ⟨by omega, this, ?_⟩
    show 1 + s + (x - 1) = 0
    simp only [sumL, List.length_singleton] at ht
    omega
  | x :: y :: r, s, _, hx, hs, hf, ht => by
    have h0 := hx x (List.mem_cons_self ..)
    have e : (x :: y :: r).take ((x :: y :: r).length - 1) = x :: (y :: r).take ((y :: r).length - 1) := rfl
    rw [e] at hf
    simp only [forB] at hf
    by_cases c : s + (x - 1) ≤ -1
    · rw [if_pos c] at hf; cases hf
    · rw [if_neg c] at hf
      refine ⟨by omega, h0, ?_⟩
      rw [show 1 + s + (x - 1) = 1 + (s + (x - 1)) from by omega]
      refine PD_of (y :: r) _ (by simp) (fun z hz => hx z (List.mem_cons_of_mem _ hz)) (by omega) hf ?_
      rw [List.length_cons] at ht
      simp only [sumL] at ht ⊢
      omega
/-- The degrees of a tree. -/
theorem F.ofDeg (l : List Int) (hd : DegB l = true) (hf : ForB l = true) (he : Exc l = 1) : ∃ f : F, l = f.cnt :: f.tl := by
  obtain ⟨h1, h2⟩ := DegB_iff hd
  unfold ForB at hf
  rw [he] at hf
  simp only [Bool.and_eq_true] at hf
  unfold Exc at he
  have hpd := PD_of l 0 (fun h => by rw [h] at h1; simp at h1) (fun x hx => (h2 x hx).1) (Int.le_refl _) hf.2 (by omega)
  obtain ⟨f, hc, hl⟩ := F.ofPD l _ hpd
  cases f with
  | nil => simp only [F.cnt] at hc; omega
  | node a b =>
    have : b = .nil := F.cnt0 b (by simp only [F.cnt] at hc; omega)
    subst this
    refine ⟨a, ?_⟩
    rw [hl]
    simp only [F.tl, List.append_nil]

theorem DP_snoc : ∀ (l a : List Int) (p : Int), DP a (l ++ [p]) = DP a l ++ [if p < 0 then 0 else rd (DP a l) p + 1]
  | [], _, _ => rfl
  | q :: l, a, p => by
    rw [List.cons_append, DP, DP_snoc l]
    rfl
/-- Depths, straight from the stack. -/
def DPR : Nat → Int → List Int → List Int → List Int → List Int
  | 0, _, a, _, _ => a
  | d + 1, i, a, left, st => match popZ left st with
    | [] => DPR d (i + 1) (a ++ [0]) left [i]
    | j :: r => DPR d (i + 1) (a ++ [rd a j + 1]) (left.set j.toNat (rd left j - 1)) (i :: j :: r)
theorem DPR_nil (d : Nat) (i : Int) (a left st : List Int) (h : popZ left st = []) : DPR (d + 1) i a left st = DPR d (i + 1) (a ++ [0]) left [i] := by
  show (match popZ left st with | [] => DPR d (i + 1) (a ++ [0]) left [i] | j :: r => DPR d (i + 1) (a ++ [rd a j + 1]) (left.set j.toNat (rd left j - 1)) (i :: j :: r)) = _
  rw [h]
theorem DPR_cons (d : Nat) (i j : Int) (a left st r : List Int) (h : popZ left st = j :: r) : DPR (d + 1) i a left st = DPR d (i + 1) (a ++ [rd a j + 1]) (left.set j.toNat (rd left j - 1)) (i :: j :: r) := by
  show (match popZ left st with | [] => DPR d (i + 1) (a ++ [0]) left [i] | j :: r => DPR d (i + 1) (a ++ [rd a j + 1]) (left.set j.toNat (rd left j - 1)) (i :: j :: r)) = _
  rw [h]
theorem DPR_pop (d : Nat) (i : Int) (a left st st' : List Int) (h : popZ left st = popZ left st') : DPR d i a left st = DPR d i a left st' := by
  cases d with
  | zero => rfl
  | succ d =>
    cases hc : popZ left st' with
    | nil => rw [DPR_nil _ _ _ _ _ hc, DPR_nil _ _ _ _ _ (h.trans hc)]
    | cons j r => rw [DPR_cons _ _ _ _ _ _ _ hc, DPR_cons _ _ _ _ _ _ _ (h.trans hc)]
theorem DP_PR (n : Nat) : ∀ (d i : Nat) (par left st : List Int), i + d = n → PInv n i left st → DP [] (PR d (i : Int) par left st) = DPR d (i : Int) (DP [] par) left st := by
  intro d
  induction d with
  | zero => intro i par left st _ _; rfl
  | succ d ih =>
    intro i par left st hi h
    have hpop := h.pop
    cases hc : popZ left st with
    | nil =>
      rw [hc] at hpop
      rw [PR_nil _ _ _ _ _ hc, DPR_nil _ _ _ _ _ hc, ← Int.natCast_succ, ih (i + 1) _ _ _ (by omega) hpop.one, DP_snoc, if_pos (by omega)]
    | cons j r =>
      have hz := popZ_top left _ _ _ hc
      rw [hc] at hpop
      have hj := hpop.inn j (List.mem_cons_self ..)
      rw [PR_cons _ _ _ _ _ _ _ hc, DPR_cons _ _ _ _ _ _ _ hc, ← Int.natCast_succ, ih (i + 1) _ _ _ (by omega) (hpop.push (by omega) hz), DP_snoc, if_neg (by omega)]
/-- The depths of a forest. -/
def F.dep : Int → F → List Int
  | _, .nil => []
  | d, .node a b => d :: (F.dep (d + 1) a ++ F.dep d b)
theorem dep_len : ∀ (f : F) (d : Int), (F.dep d f).length = f.tl.length
  | .nil, _ => rfl
  | .node a b, d => by simp only [F.dep, F.tl, List.length_cons, List.length_append, dep_len a, dep_len b]
theorem dpr_f : ∀ (f : F) (d' i : Nat) (a left base : List Int) (p c : Int), a.length = i → i + f.tl.length ≤ left.length → 0 ≤ p → p < (i : Int) → 0 ≤ c → rd left p = c + f.cnt → (left.drop i).take f.tl.length = f.tl →
    ∃ left', left'.length = left.length ∧ rd left' p = c ∧ (∀ q : Int, 0 ≤ q → q < (i : Int) → q ≠ p → rd left' q = rd left q) ∧ left'.drop (i + f.tl.length) = left.drop (i + f.tl.length) ∧
      DPR (f.tl.length + d') (i : Int) a left (p :: base) = DPR d' ((i + f.tl.length : Nat) : Int) (a ++ F.dep (rd a p + 1) f) left' (p :: base) := by
  intro f
  induction f with
  | nil =>
    intro d' i a left base p c _ _ _ _ _ hp _
    refine ⟨left, rfl, by rw [hp]; simp only [F.cnt]; omega, fun _ _ _ _ => rfl, rfl, ?_⟩
    simp only [F.tl, F.dep, List.length_nil, Nat.zero_add, Nat.add_zero, List.append_nil]
  | node f g ihf ihg =>
    intro d' i a left base p c ha hl hp0 hp1 hc hp hd
    have hlen : (F.node f g).tl.length = f.tl.length + g.tl.length + 1 := by simp only [F.tl, List.length_cons, List.length_append]
    have cf := F.cnt_bd f
    have cg := F.cnt_bd g
    simp only [F.cnt] at hp
    rw [hlen] at hd hl
    have hi : i < left.length := by omega
    rw [drop_rd left i hi, List.take_succ_cons] at hd
    simp only [F.tl] at hd
    injection hd with hd1 hd2
    have hz : ¬ (rd left p = 0) := by omega
    generalize hL : left.set p.toNat (rd left p - 1) = left1
    have l1 : left1.length = left.length := by rw [← hL, List.length_set]
    have l1p : rd left1 p = c + g.cnt := by rw [← hL, rd_set left p p _ hp0 hp0 (by omega), if_pos rfl]; omega
    have l1q : ∀ q : Int, 0 ≤ q → q ≠ p → rd left1 q = rd left q := fun q hq hqp => by rw [← hL, rd_set left p q _ hp0 hq (by omega), if_neg (fun h => hqp h.symm)]
    have l1d : ∀ k : Nat, i ≤ k → left1.drop k = left.drop k := fun k hk => by rw [← hL, List.drop_set_of_lt (by omega)]
    have hd3 : (left.drop (i + 1)).take f.tl.length = f.tl := by
      have := congrArg (List.take f.tl.length) hd2
      rw [List.take_take, Nat.min_eq_left (by omega), List.take_append_of_le_length (Nat.le_refl _), List.take_length] at this
      exact this
    have hd4 : (left.drop (i + 1 + f.tl.length)).take g.tl.length = g.tl := by
      have := congrArg (List.drop f.tl.length) hd2
      rw [List.drop_take, List.drop_drop, show f.tl.length + g.tl.length - f.tl.length = g.tl.length from by omega, List.drop_append_of_le_length (Nat.le_refl _), List.drop_length, List.nil_append] at this
      exact this
    obtain ⟨left2, a1, a2, a3, a4, a5⟩ := ihf (g.tl.length + d') (i + 1) (a ++ [rd a p + 1]) left1 (p :: base) (i : Int) 0 (by rw [List.length_append, List.length_singleton, ha]) (by omega) (by omega) (by omega) (Int.le_refl _)
      (by rw [l1q i (by omega) (by omega), hd1]; omega) (by rw [l1d (i + 1) (by omega)]; exact hd3)
    have hra : rd (a ++ [rd a p + 1]) (i : Int) = rd a p + 1 := by rw [← ha]; exact rd_last _ _
    rw [hra] at a5
    have hra2 : rd (a ++ [rd a p + 1] ++ F.dep (rd a p + 1 + 1) f) p = rd a p := by rw [List.append_assoc, rd_app a _ p hp0 (by omega)]
    obtain ⟨left3, b1, b2, b3, b4, b5⟩ := ihg d' (i + 1 + f.tl.length) (a ++ [rd a p + 1] ++ F.dep (rd a p + 1 + 1) f) left2 base p c (by simp only [List.length_append, List.length_singleton, ha, dep_len]) (by omega) hp0 (by omega) hc
      (by rw [a3 p hp0 (by omega) (by omega)]; exact l1p) (by rw [a4, l1d _ (by omega)]; exact hd4)
    rw [hra2] at b5
    refine ⟨left3, by omega, b2, fun q hq hqi hqp => by rw [b3 q hq (by omega) hqp, a3 q hq (by omega) (by omega), l1q q hq hqp], ?_, ?_⟩
    · rw [hlen, show i + (f.tl.length + g.tl.length + 1) = i + 1 + f.tl.length + g.tl.length from by omega, b4]
      have := congrArg (List.drop g.tl.length) a4
      rw [List.drop_drop, List.drop_drop] at this
      rw [this, l1d _ (by omega)]
    · rw [hlen, show f.tl.length + g.tl.length + 1 + d' = (f.tl.length + (g.tl.length + d')) + 1 from by omega, DPR_cons _ _ p a left (p :: base) base (if_neg hz), hL, ← Int.natCast_succ, a5]
      rw [DPR_pop _ _ _ _ ((i : Int) :: p :: base) (p :: base) (if_pos a2), b5]
      rw [show i + 1 + f.tl.length + g.tl.length = i + (f.tl.length + g.tl.length + 1) from by omega]
      simp only [F.dep, List.append_assoc, List.cons_append, List.nil_append]
theorem depths_f (l : List Int) (h : DegB l = true) (f : F) (hl : l = f.cnt :: f.tl) : DP [] (PAR l) = 0 :: F.dep 1 f := by
  unfold PAR
  rw [show (0 : Int) = ((0 : Nat) : Int) from rfl, DP_PR l.length l.length 0 [] l [] (by omega) (PInv_start h)]
  have hlen : l.length = f.tl.length + 1 := by rw [hl, List.length_cons]
  conv => lhs; rw [hlen]
  rw [DPR_nil _ _ _ _ _ rfl]
  obtain ⟨left', _, _, _, _, e⟩ := dpr_f f 0 1 [0] l [] 0 0 rfl (by omega) (Int.le_refl _) (by omega) (Int.le_refl _) (by rw [hl]; simp only [rd_cons_zero]; omega) (by rw [hl]; simp)
  rw [Nat.add_zero] at e
  exact e

theorem treeEnd_l0 (l : List Int) (hl : l.length ≤ 16) : ∀ (f : F) (i : Nat) (m : Int) (rest : List Int) (R : Int), l.drop i = f.tl ++ rest → (f = .nil ∨ i < l.length) → 0 ≤ m → m ≤ 100000 → (∀ x ∈ l, 0 ≤ x ∧ x ≤ 16) → m + f.cnt + 16 * (f.tl.length : Int) ≤ 100000 →
    Ev (fun k => impl_treeEnd.l0 k l ((i + f.tl.length : Nat) : Int) m) R → Ev (fun k => impl_treeEnd.l0 k l (i : Int) (m + f.cnt)) R := by
  intro f
  induction f with
  | nil =>
    intro i m rest R _ _ _ _ _ _ hR
    rw [show m + F.nil.cnt = m from by simp only [F.cnt]; omega]
    exact hR
  | node a b iha ihb =>
    intro i m rest R hd hi hm hm2 hx hmc hR
    have hi : i < l.length := by
      rcases hi with h | h
      · cases h
      · exact h
    have e1 : (F.node a b).tl ++ rest = a.cnt :: (a.tl ++ (b.tl ++ rest)) := by simp only [F.tl, List.cons_append, List.append_assoc]
    have hlen : (F.node a b).tl.length = a.tl.length + b.tl.length + 1 := by simp only [F.tl, List.length_cons, List.length_append]
    rw [e1, drop_rd l i hi] at hd
    injection hd with h1 h2
    have h3 : l.drop (i + 1 + a.tl.length) = b.tl ++ rest := by
      rw [← List.drop_drop, h2, List.drop_append_of_le_length (Nat.le_refl _), List.drop_length, List.nil_append]
    have ca := F.cnt_bd a
    have cb := F.cnt_bd b
    simp only [F.cnt] at hmc ⊢
    have hrd := hx (rd l (i : Int)) (by rw [rd_get l i hi]; exact List.getElem_mem _)
    have hB := ihb (i + 1 + a.tl.length) m rest R h3 (by
      by_cases c : i + 1 + a.tl.length < l.length
      · exact .inr c
      · left
        rw [List.drop_of_length_le (by omega)] at h3
        have : b.tl = [] := (List.append_eq_nil_iff.1 h3.symm).1
        cases b with
        | nil => rfl
        | node _ _ => simp only [F.tl] at this; cases this) hm hm2 hx (by omega) (by rw [show i + 1 + a.tl.length + b.tl.length = i + (F.node a b).tl.length from by omega]; exact hR)
    have hA := iha (i + 1) (m + b.cnt) (b.tl ++ rest) R h2 (by
      by_cases c : i + 1 < l.length
      · exact .inr c
      · left
        rw [List.drop_of_length_le (by omega)] at h2
        have : a.tl = [] := (List.append_eq_nil_iff.1 h2.symm).1
        cases a with
        | nil => rfl
        | node _ _ => simp only [F.tl] at this; cases this) (by omega) (by omega) hx (by rw [h1] at hrd; omega) hB
    refine Ev.s ?_
    have c1 : m + (1 + b.cnt) > 0 := by omega
    have c2 : (0 : Int) ≤ (i : Int) := by omega
    have c3 : (i : Int) < (l.length : Int) := by omega
    have w1 : wrap64 (a.cnt - 1) = a.cnt - 1 := by rw [h1] at hrd; exact w64 (by omega) (by omega)
    have w2 : wrap64 (m + (1 + b.cnt) + (a.cnt - 1)) = m + b.cnt + a.cnt := by rw [h1] at hrd; clear w1; rw [w64 (by omega) (by omega)]; omega
    have w3 := wsucc i 16 (by omega) (by omega)
    simp only [impl_treeEnd.l0, if_pos c1, if_pos c2, if_pos c3, h1, w1, w2, w3]
    exact hA
/-- The degrees of its trees, one by one. -/
def F.trs : F → List (List Int)
  | .nil => []
  | .node a b => (a.cnt :: a.tl) :: F.trs b
theorem trs_len : ∀ f : F, (F.trs f).length ≤ f.tl.length
  | .nil => Nat.le_refl _
  | .node a b => by
    have := trs_len b
    simp only [F.trs, F.tl, List.length_cons, List.length_append]
    omega
theorem treesIn_l0 (l : List Int) (hl : l.length ≤ 16) (hx : ∀ x ∈ l, 0 ≤ x ∧ x ≤ 16) : ∀ (f : F) (i : Nat) (acc : List (List Int)), i ≤ l.length → l.drop i = f.tl → acc.length + f.tl.length ≤ 1000 →
    Ev (fun k => impl_treesIn.l0 k l acc (i : Int)) (acc ++ F.trs f) := by
  intro f
  induction f with
  | nil =>
    intro i acc hi hd _
    have : l.length - i = 0 := by
      have := congrArg List.length hd
      rwa [List.length_drop] at this
    refine Ev.s ?_
    have c : ¬ ((i : Int) < (l.length : Int)) := by omega
    simp only [impl_treesIn.l0, if_neg c, F.trs, List.append_nil]
    exact Ev.now _
  | node a b iha ihb =>
    intro i acc hi hd ho
    have hlen : (F.node a b).tl.length = a.tl.length + b.tl.length + 1 := by simp only [F.tl, List.length_cons, List.length_append]
    have hdl : l.length - i = (F.node a b).tl.length := by rw [← hd, List.length_drop]
    have hi' : i < l.length := by omega
    have cnode : (F.node a .nil).cnt = 1 := rfl
    have lnode : (F.node a .nil).tl.length = a.tl.length + 1 := by simp only [F.tl, List.length_cons, List.append_nil]
    have hd' : l.drop i = (F.node a .nil).tl ++ b.tl := by rw [hd]; simp only [F.tl, List.append_nil, List.cons_append]
    have hte := treeEnd_l0 l hl (.node a .nil) i 0 b.tl ((i + (a.tl.length + 1) : Nat) : Int) hd' (.inr hi') (Int.le_refl _) (by omega) hx (by rw [cnode, lnode]; omega) (by
      refine Ev.s ?_
      rw [lnode]
      have c : ¬ ((0 : Int) > 0) := by omega
      simp only [impl_treeEnd.l0, if_neg c]
      exact Ev.now _)
    rw [cnode, Int.zero_add] at hte
    have hd2 : l.drop (i + (a.tl.length + 1)) = b.tl := by
      rw [← List.drop_drop, hd', ← lnode, List.drop_append_of_le_length (Nat.le_refl _), List.drop_length, List.nil_append]
    have hcut : (l.take (i + (a.tl.length + 1))).drop i = a.cnt :: a.tl := by
      rw [List.drop_take, hd', show i + (a.tl.length + 1) - i = (F.node a .nil).tl.length from by omega, List.take_append_of_le_length (Nat.le_refl _), List.take_length]
      simp only [F.tl, List.append_nil]
    have hnext := ihb (i + (a.tl.length + 1)) (acc ++ [a.cnt :: a.tl]) (by omega) hd2 (by rw [List.length_append, List.length_singleton]; omega)
    refine Ev.s ?_
    have c1 : ((i : Int) < (l.length : Int)) := by omega
    have c2 : (0 : Int) ≤ (i : Int) := by omega
    have c3 : (i : Int) ≤ ((i + (a.tl.length + 1) : Nat) : Int) := by omega
    have c4 : ((i + (a.tl.length + 1) : Nat) : Int) ≤ (l.length : Int) := by omega
    have c5 : (a.cnt :: a.tl).length < 17592186044416 := by rw [List.length_cons]; omega
    have c6 : acc.length < 5864062014805 := by omega
    simp only [impl_treesIn.l0, if_pos c1]
    unfold impl_treeEnd.f
    refine Ev.bs hte ?_
    simp only [if_pos c2, if_pos c3, if_pos c4, Int.toNat_natCast, hcut, slices_Clone_int_int.f, if_pos c5, Option.bind_some, if_pos c6]
    rw [List.append_assoc] at hnext
    exact hnext
theorem treesIn_ev (f : F) (hl : f.tl.length ≤ 16) (hx : ∀ x ∈ f.tl, 0 ≤ x ∧ x ≤ 16) : Ev (fun k => impl_treesIn.f k f.tl) (F.trs f) :=
  treesIn_l0 f.tl hl hx f 0 [] (Nat.zero_le _) (by rw [List.drop_zero]) (by rw [List.length_nil]; omega)
theorem rdL_drop (xs : List (List Int)) (j : Nat) (x : List Int) (r : List (List Int)) (h : xs.drop j = x :: r) : j < xs.length ∧ rd_L1 xs (j : Int) = x ∧ xs.drop (j + 1) = r := by
  have hj : j < xs.length := by
    by_cases c : j < xs.length
    · exact c
    · rw [List.drop_of_length_le (by omega)] at h; cases h
  rw [List.drop_eq_getElem_cons hj] at h
  injection h with h1 h2
  refine ⟨hj, ?_, h2⟩
  unfold rd_L1
  rw [Int.toNat_natCast, List.getD_eq_getElem?_getD, List.getElem?_eq_getElem hj, h1]
  rfl
theorem szl (s : ByteArray) (l : List UInt8) (h : s.data.toList = l) : s.size = l.length := by
  rw [← h, Array.length_toList]; rfl
theorem apl (s t : ByteArray) : (s ++ t).data.toList = s.data.toList ++ t.data.toList := by
  rw [ByteArray.data_append, Array.toList_append]
/-- The loop over the trees. -/
def WalkOk (f : F) : Prop := ∀ (j : Nat) (xs : List (List Int)) (out : ByteArray), xs.drop j = F.trs f → j ≤ xs.length → xs.length ≤ 1000 → out.size + f.word.length ≤ 1000 → f.tl.length ≤ 16 → (∀ x ∈ f.tl, 0 ≤ x ∧ x ≤ 16) →
  ∃ t, t.data.toList = out.data.toList ++ f.word ∧ Ev (fun k => impl_walk.l0 k out xs (xs.length : Int) (j : Int)) t
theorem walk_of (f : F) (h : WalkOk f) (hl : f.tl.length ≤ 16) (hx : ∀ x ∈ f.tl, 0 ≤ x ∧ x ≤ 16) : ∃ t, t.data.toList = f.word ∧ Ev (fun k => impl_walk.f k f.tl) t := by
  have ht := F.tl_len f
  have htr := trs_len f
  obtain ⟨t, h1, h2⟩ := h 0 (F.trs f) ⟨#[]⟩ (by rw [List.drop_zero]) (Nat.zero_le _) (by omega) (by show 0 + _ ≤ _; omega) hl hx
  refine ⟨t, h1, Ev.s ?_⟩
  simp only [impl_walk.f]
  exact Ev.bs (treesIn_ev f hl hx) h2
theorem walkOk : ∀ f : F, WalkOk f := by
  intro f
  induction f with
  | nil =>
    intro j xs out hd hj _ _ _ _
    have : xs.length - j = 0 := by
      have := congrArg List.length hd
      rwa [List.length_drop] at this
    refine ⟨out, by simp only [F.word, List.append_nil], Ev.s ?_⟩
    have c : ¬ ((j : Int) < (xs.length : Int)) := by omega
    simp only [impl_walk.l0, if_neg c]
    exact Ev.now _
  | node a b iha ihb =>
    intro j xs out hd hj hxl ho hl hx
    have hlen : (F.node a b).tl.length = a.tl.length + b.tl.length + 1 := by simp only [F.tl, List.length_cons, List.length_append]
    have hwl : (F.node a b).word.length = a.word.length + 2 + b.word.length := by simp only [F.word, List.length_cons, List.length_append]; omega
    obtain ⟨q1, q2, q3⟩ := rdL_drop xs j _ _ hd
    obtain ⟨t, t1, t2⟩ := walk_of a iha (by omega) (fun x hx' => hx x (by simp only [F.tl]; exact List.mem_cons_of_mem _ (List.mem_append_left _ hx')))
    have tsz := szl t _ t1
    have usz : ((⟨#[85]⟩ : ByteArray) ++ t).size = 1 + a.word.length := by rw [ByteArray.size_append, tsz]; rfl
    have psz : (((⟨#[85]⟩ : ByteArray) ++ t) ++ (⟨#[68]⟩ : ByteArray)).size = a.word.length + 2 := by rw [ByteArray.size_append, usz]; show 1 + a.word.length + 1 = _; omega
    have osz : (out ++ (((⟨#[85]⟩ : ByteArray) ++ t) ++ (⟨#[68]⟩ : ByteArray))).size = out.size + (a.word.length + 2) := by rw [ByteArray.size_append, psz]
    obtain ⟨r, r1, r2⟩ := ihb (j + 1) xs (out ++ (((⟨#[85]⟩ : ByteArray) ++ t) ++ (⟨#[68]⟩ : ByteArray))) q3 (by omega) hxl (by omega) (by omega)
      (fun x hx' => hx x (by simp only [F.tl]; exact List.mem_cons_of_mem _ (List.mem_append_right _ hx')))
    refine ⟨r, ?_, Ev.s ?_⟩
    · rw [r1, apl, apl, apl, t1]
      simp only [F.word, List.append_assoc]
      rfl
    · have c1 : ((j : Int) < (xs.length : Int)) := by omega
      have c2 : (0 : Int) ≤ (j : Int) := by omega
      have c3 : (1 : Int) ≤ ((a.cnt :: a.tl).length : Int) := by rw [List.length_cons]; omega
      have c4 : 1 + t.size ≤ 9223372036854775807 := by omega
      have c5 : ((⟨#[85]⟩ : ByteArray) ++ t).size + 1 ≤ 9223372036854775807 := by omega
      have c6 : out.size + (((⟨#[85]⟩ : ByteArray) ++ t) ++ (⟨#[68]⟩ : ByteArray)).size ≤ 9223372036854775807 := by omega
      have w := wsucc j 1000 (by omega) (by omega)
      simp only [impl_walk.l0, if_pos c1, if_pos c2, q2, if_pos c3, List.drop_succ_cons, List.drop_zero]
      refine Ev.bs t2 ?_
      simp only [if_pos c4, if_pos c5, if_pos c6, w]
      exact r2

/-- A text, stepped down. -/
def downT (t : ByteArray) (n : Nat) : List UInt8 := t.data.toList ++ List.replicate n 68
theorem pt_down (xs : List Int) (i : Nat) (hi : 0 < i) (d : Int) (R : ByteArray × Bool) : ∀ (n : Nat) (t : ByteArray) (e : Int), e = d - 1 + (n : Int) → 0 ≤ d → d ≤ 1000 → n ≤ 1000 → t.size + n ≤ 2000 →
    (∀ t' : ByteArray, t'.data.toList = downT t n → Ev (fun k => spec_PathOfTree.l1 k t' (d - 1) (i : Int) d xs (xs.length : Int) (i : Int)) R) →
    Ev (fun k => spec_PathOfTree.l1 k t e (i : Int) d xs (xs.length : Int) (i : Int)) R := by
  intro n
  induction n with
  | zero =>
    intro t e he hd hd2 hn ht h
    rw [he, show d - 1 + ((0 : Nat) : Int) = d - 1 from by omega]
    exact h t (by simp [downT])
  | succ n ih =>
    intro t e he hd hd2 hn ht h
    have asz : (t ++ (⟨#[68]⟩ : ByteArray)).size = t.size + 1 := by rw [ByteArray.size_append]; rfl
    have hnext := ih (t ++ (⟨#[68]⟩ : ByteArray)) (e - 1) (by omega) hd hd2 (by omega) (by omega) (fun t' ht' => h t' (by
      rw [ht']
      unfold downT
      rw [apl, List.append_assoc, List.replicate_succ]
      rfl))
    refine Ev.s ?_
    have c1 : e ≥ d := by omega
    have c2 : (i : Int) > 0 := by omega
    have c3 : t.size + 1 ≤ 9223372036854775807 := by omega
    have w := w64 (n := e - 1) (by omega) (by omega)
    simp only [spec_PathOfTree.l1, if_pos c1, if_pos c2, if_pos c3, w]
    exact hnext
theorem pt_end (n : Nat) : ∀ (t : ByteArray), n ≤ 1000 → t.size + n ≤ 2000 → ∃ t', t'.data.toList = downT t n ∧ Ev (fun k => spec_PathOfTree.l2 k t (n : Int)) (t', true) := by
  induction n with
  | zero =>
    intro t _ _
    refine ⟨t, by simp [downT], Ev.s ?_⟩
    have c : ¬ (((0 : Nat) : Int) > 0) := by omega
    simp only [spec_PathOfTree.l2, if_neg c]
    exact Ev.now _
  | succ n ih =>
    intro t hn ht
    have asz : (t ++ (⟨#[68]⟩ : ByteArray)).size = t.size + 1 := by rw [ByteArray.size_append]; rfl
    obtain ⟨t', h1, h2⟩ := ih (t ++ (⟨#[68]⟩ : ByteArray)) (by omega) (by omega)
    refine ⟨t', ?_, Ev.s ?_⟩
    · rw [h1]
      unfold downT
      rw [apl, List.append_assoc, List.replicate_succ]
      rfl
    · have c1 : ((n + 1 : Nat) : Int) > 0 := by omega
      have c3 : t.size + 1 ≤ 9223372036854775807 := by omega
      have w : wrap64 (((n + 1 : Nat) : Int) - 1) = (n : Int) := by rw [w64 (by omega) (by omega)]; omega
      simp only [spec_PathOfTree.l2, if_pos c1, if_pos c3, w]
      exact h2
theorem pt_f (xs : List Int) (hxl : xs.length ≤ 16) (R : ByteArray × Bool) : ∀ (f : F) (d : Nat) (i n : Nat) (t : ByteArray) (rest : List Int), 1 ≤ d → 0 < i → i ≤ xs.length → xs.drop i = F.dep (d : Int) f ++ rest → d + n + f.tl.length ≤ 40 → t.size + n + f.word.length ≤ 500 →
    (∀ (n' : Nat) (t' : ByteArray), downT t' n' = downT t n ++ f.word → d + n' ≤ d + n + f.tl.length → Ev (fun k => spec_PathOfTree.l0 k t' ((d : Int) - 1 + (n' : Int)) xs (xs.length : Int) ((i + f.tl.length : Nat) : Int)) R) →
    Ev (fun k => spec_PathOfTree.l0 k t ((d : Int) - 1 + (n : Int)) xs (xs.length : Int) (i : Int)) R := by
  intro f
  induction f with
  | nil =>
    intro d i n t rest _ _ _ _ _ _ h
    have := h n t (by simp only [F.word, List.append_nil]) (by omega)
    exact this
  | node a b iha ihb =>
    intro d i n t rest hd1 hi0 hi hd hb1 hb2 h
    have hlen : (F.node a b).tl.length = a.tl.length + b.tl.length + 1 := by simp only [F.tl, List.length_cons, List.length_append]
    have hwl : (F.node a b).word.length = a.word.length + 2 + b.word.length := by simp only [F.word, List.length_cons, List.length_append]; omega
    have ta := F.tl_len a
    have e1 : F.dep (d : Int) (F.node a b) ++ rest = (d : Int) :: (F.dep ((d + 1 : Nat) : Int) a ++ (F.dep (d : Int) b ++ rest)) := by
      simp only [F.dep, List.cons_append, List.append_assoc, Int.natCast_succ]
    rw [e1] at hd
    have hi' : i < xs.length := by
      by_cases g : i < xs.length
      · exact g
      · rw [List.drop_of_length_le (by omega)] at hd; cases hd
    rw [drop_rd xs i hi'] at hd
    injection hd with h1 h2
    have h3 : xs.drop (i + 1 + a.tl.length) = F.dep (d : Int) b ++ rest := by
      rw [← List.drop_drop, h2, ← dep_len a ((d + 1 : Nat) : Int), List.drop_append_of_le_length (Nat.le_refl _), List.drop_length, List.nil_append]
    have hle : i + 1 + a.tl.length ≤ xs.length := by
      have := congrArg List.length h2
      rw [List.length_drop, List.length_append, dep_len] at this
      omega
    refine Ev.s ?_
    have c1 : ((i : Int) < (xs.length : Int)) := by omega
    have c2 : (0 : Int) ≤ (i : Int) := by omega
    simp only [spec_PathOfTree.l0, if_pos c1, if_pos c2, h1]
    refine pt_down xs i hi0 (d : Int) R n t _ rfl (by omega) (by omega) (by omega) (by omega) (fun t1 ht1 => ?_)
    refine Ev.s ?_
    have s1 : t1.size = t.size + n := by
      have := szl t1 _ ht1
      rw [this]
      unfold downT
      rw [List.length_append, List.length_replicate, szl t _ rfl]
    have s2 : (t1 ++ (⟨#[85]⟩ : ByteArray)).size = t1.size + 1 := by rw [ByteArray.size_append]; rfl
    have d1 : ¬ ((d : Int) - 1 ≥ (d : Int)) := by omega
    have d2 : (i : Int) > 0 := by omega
    have d3 : t1.size + 1 ≤ 9223372036854775807 := by omega
    have w := wsucc i xs.length hi' (by omega)
    simp only [spec_PathOfTree.l1, if_neg d1, if_pos d2, if_pos d3, w]
    clear w
    have hA := iha (d + 1) (i + 1) 0 (t1 ++ (⟨#[85]⟩ : ByteArray)) (F.dep (d : Int) b ++ rest) (by omega) (by omega) (by omega) h2 (by omega) (by omega) (fun n2 t2 ht2 hn2 => ?_)
    · rw [show ((d + 1 : Nat) : Int) - 1 + ((0 : Nat) : Int) = (d : Int) from by omega] at hA
      exact hA
    · have hl2 : t2.size + n2 = t1.size + 1 + a.word.length := by
        have := congrArg List.length ht2
        unfold downT at this
        simp only [List.length_append, List.length_replicate] at this
        rw [← szl t2 _ rfl, ← szl (t1 ++ (⟨#[85]⟩ : ByteArray)) _ rfl] at this
        omega
      have hB := ihb d (i + 1 + a.tl.length) (n2 + 1) t2 rest hd1 (by omega) hle h3 (by omega) (by omega) (fun n3 t3 ht3 hn3 => ?_)
      · rw [show (d : Int) - 1 + ((n2 + 1 : Nat) : Int) = ((d + 1 : Nat) : Int) - 1 + (n2 : Int) from by omega] at hB
        exact hB
      · have := h n3 t3 (by
          rw [ht3]
          have e2 : downT t2 (n2 + 1) = downT t2 n2 ++ [68] := by
            unfold downT
            rw [List.replicate_succ', List.append_assoc]
          rw [e2, ht2, ← ht1]
          unfold downT
          rw [apl]
          simp only [F.word, List.replicate_zero, List.append_nil, List.append_assoc, List.cons_append, List.nil_append]) (by omega)
        rw [show i + (F.node a b).tl.length = i + 1 + a.tl.length + b.tl.length from by omega] at this
        exact this
theorem specPath_ev (f : F) (hl : f.tl.length + 1 ≤ 16) : ∃ t, t.data.toList = f.word ∧ Ev (fun k => spec_PathOfTree.l0 k (⟨#[]⟩ : ByteArray) 0 (0 :: F.dep 1 f) ((0 :: F.dep 1 f).length : Int) 0) (t, true) := by
  have hlen : (0 :: F.dep 1 f).length = f.tl.length + 1 := by rw [List.length_cons, dep_len]
  have ht := F.tl_len f
  have mk : ∀ t : ByteArray, t.data.toList = f.word → Ev (fun k => spec_PathOfTree.l0 k (⟨#[]⟩ : ByteArray) 0 (0 :: F.dep 1 f) ((0 :: F.dep 1 f).length : Int) 0) (t, true) := by
    intro t htw
    refine Ev.s ?_
    have c1 : ((0 : Int) < ((0 :: F.dep 1 f).length : Int)) := by omega
    have c2 : (0 : Int) ≤ 0 := Int.le_refl _
    simp only [spec_PathOfTree.l0, if_pos c1, if_pos c2, rd_cons_zero]
    refine Ev.s ?_
    have d1 : (0 : Int) ≥ 0 := Int.le_refl _
    have d2 : ¬ ((0 : Int) > 0) := by omega
    have w : wrap64 ((0 : Int) + 1) = ((1 : Nat) : Int) := by rw [w64 (by omega) (by omega)]; rfl
    simp only [spec_PathOfTree.l1, if_pos d1, if_neg d2, w]
    clear w
    refine pt_f (0 :: F.dep 1 f) (by omega) (t, true) f 1 1 0 (⟨#[]⟩ : ByteArray) [] (Nat.le_refl _) (by omega) (by omega) (by rw [List.append_nil]; rfl) (by omega) (by show 0 + 0 + _ ≤ 500; omega) (fun n' t' h1 h2 => ?_)
    refine Ev.s ?_
    have c3 : ¬ (((1 + f.tl.length : Nat) : Int) < ((0 :: F.dep 1 f).length : Int)) := by omega
    simp only [spec_PathOfTree.l0, if_neg c3]
    have sz : t'.size + n' = f.word.length := by
      have := congrArg List.length h1
      unfold downT at this
      simp only [List.length_append, List.length_replicate, List.length_nil] at this
      rw [← szl t' _ rfl] at this
      rw [this]; show 0 + 0 + _ = _; omega
    obtain ⟨t2, h3, h4⟩ := pt_end n' t' (by omega) (by omega)
    rw [show ((1 : Nat) : Int) - 1 + (n' : Int) = (n' : Int) from by omega]
    have : t2 = t := by
      have e : t2.data.toList = t.data.toList := by rw [h3, h1, htw]; rfl
      cases t2; cases t
      simp only [ByteArray.mk.injEq]
      exact Array.toList_inj.1 e
    rw [← this]
    exact h4
  exact ⟨⟨f.word.toArray⟩, by simp, mk _ (by simp)⟩

theorem toList_eq (s : ByteArray) : s.toList = s.data.toList := ByteArray.toList_eq s
theorem FnExactPathOfTree : laws_FnExactPathOfTree.Pure := by
  intro l _ hl _
  have hn : l.length ≤ 35184372088832 := by omega
  refine Ev.rounds ?_
  unfold laws_FnExactPathOfTree.f
  by_cases h : (l.length : Int) > 1048576
  · simp only [if_pos h]; exact Ev.now _
  simp only [if_neg h]
  have no1 : Ev (fun k => spec_PathOfTree.j0 k l true) ((⟨#[]⟩ : ByteArray), false) := by
    refine Ev.s ?_
    simp only [spec_PathOfTree.j0, if_true]
    exact Ev.now _
  have two : ∃ (s t : ByteArray) (b : Bool), s.data.toList = t.data.toList ∧ Ev (fun k => spec_PathOfTree.f k l) (s, b) ∧ Ev (fun k => impl_PathOfTree.f k l) (t, b) := by
    by_cases hf : (DegB l && ForB l) = true
    · have hd : DegB l = true := (Bool.and_eq_true _ _ ▸ hf).1
      have hfo : ForB l = true := (Bool.and_eq_true _ _ ▸ hf).2
      by_cases hx : Exc l = 1
      · obtain ⟨f, hlf⟩ := F.ofDeg l hd hfo hx
        obtain ⟨h16, hnum⟩ := DegB_iff hd
        have hlen : l.length = f.tl.length + 1 := by rw [hlf, List.length_cons]
        have hnum' : ∀ x ∈ f.tl, 0 ≤ x ∧ x ≤ 16 := fun x hx' => hnum x (by rw [hlf]; exact List.mem_cons_of_mem _ hx')
        obtain ⟨t1, a1, a2⟩ := specPath_ev f (by omega)
        obtain ⟨t2, b1, b2⟩ := walk_of f (walkOk f) (by omega) hnum'
        refine ⟨t1, t2, true, by rw [a1, b1], ?_, ?_⟩
        · unfold spec_PathOfTree.f
          refine Ev.bs (cyIs_ev l hn) ?_
          simp only [hf, if_true]
          refine Ev.bs (cyExcess_ev l hd) ?_
          rw [hx]
          refine Ev.s ?_
          simp only [spec_PathOfTree.j0, bne_self_eq_false, Bool.false_eq_true, if_false]
          refine Ev.bs (cyDepths_ev l hd) ?_
          rw [depths_f l hd f hlf]
          exact a2
        · unfold impl_PathOfTree.f impl_isTree.f
          refine Ev.bs (a := true) ?_ ?_
          · refine Ev.bs (areForest_ev l hn) ?_
            simp only [hf, if_true]
            refine Ev.bs (excess_ev l hd) (Ev.c ?_)
            rw [hx]; rfl
          · have c : (1 : Int) ≤ (l.length : Int) := by omega
            simp only [if_true, if_pos c]
            have e : l.drop 1 = f.tl := by rw [hlf]; rfl
            rw [e]
            exact Ev.bs b2 (Ev.now _)
      · refine ⟨⟨#[]⟩, ⟨#[]⟩, false, rfl, ?_, ?_⟩
        · unfold spec_PathOfTree.f
          refine Ev.bs (cyIs_ev l hn) ?_
          simp only [hf, if_true]
          refine Ev.bs (cyExcess_ev l hd) ?_
          have b : (Exc l != 1) = true := by simpa using hx
          rw [b]
          exact no1
        · unfold impl_PathOfTree.f impl_isTree.f
          refine Ev.bs (a := false) ?_ ?_
          · refine Ev.bs (areForest_ev l hn) ?_
            simp only [hf, if_true]
            refine Ev.bs (excess_ev l hd) (Ev.c ?_)
            have b : (Exc l == 1) = false := by simpa using hx
            rw [b]
          · simp only [Bool.false_eq_true, if_false]
            exact Ev.now _
    · refine ⟨⟨#[]⟩, ⟨#[]⟩, false, rfl, ?_, ?_⟩
      · unfold spec_PathOfTree.f
        refine Ev.bs (cyIs_ev l hn) ?_
        simp only [if_neg hf]
        exact no1
      · unfold impl_PathOfTree.f impl_isTree.f
        refine Ev.bs (a := false) ?_ ?_
        · refine Ev.bs (areForest_ev l hn) ?_
          simp only [if_neg hf]
          exact Ev.now _
        · simp only [Bool.false_eq_true, if_false]
          exact Ev.now _
  obtain ⟨s, t, b, hst, e1, e2⟩ := two
  refine Ev.bs (toIntS_ev l hn) (Ev.bs e1 (Ev.bs (toIntS_ev l hn) (Ev.bs e2 ?_)))
  have e3 : t.toList = s.toList := by rw [toList_eq, toList_eq, hst]
  simp only [e3, if_true, bne_self_eq_false]
  refine Ev.s ?_
  simp only [laws_FnExactPathOfTree.j0, Bool.false_eq_true, if_false]
  refine Ev.bs (toIntS_ev l hn) (Ev.bs (eqIntS_ev l l hn) (Ev.c ?_))
  simp

end Go.Proofs.Ytepheolianmkbaa.Pure
