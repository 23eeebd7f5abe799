/- The plain law of the statement FnExactMirrorForest: what the program's function computes is what the reference's computes, for all arguments; no condition. -/
import Derived.Test.YtlogghfgfokijaaPFnExactMirrorForestx4
namespace Go.Proofs.Ytlogghfgfokijaa.Pure
open Go.RowKit Go.Proofs.Ytlogghfgfokijaa.PFnExactMirrorForest Go.Proofs.YtlogghfgfokijaaW.PrintWords Go.Proofs.YtlogghfgfokijaaW.PrintLast Go.Proofs.YtlogghfgfokijaaW.PrintMore

theorem Ev.s {α : Type} {g : Nat → Option α} {r : α} (h : Ev (fun k => g (k + 1)) r) : Ev g r := by
  obtain ⟨K, hK⟩ := h
  refine ⟨K + 1, fun k hk => ?_⟩
  obtain ⟨m, rfl⟩ : ∃ m, k = m + 1 := ⟨k - 1, by omega⟩
  exact hK m (by omega)
theorem Ev.c {α : Type} {o : Option α} {r : α} (h : o = some r) : Ev (fun _ => o) r := ⟨0, fun _ _ => h⟩
theorem Ev.u {α : Type} {g : Nat → Option α} {r r' : α} (h : Ev g r) (h' : Ev g r') : r = r' := by
  obtain ⟨K, hK⟩ := h
  obtain ⟨K', hK'⟩ := h'
  have a := hK (max K K') (by omega)
  have b := hK' (max K K') (by omega)
  rw [a] at b
  exact Option.some.inj b
theorem Ev.e {α : Type} {g : Nat → Option α} {r r' : α} (h : Ev g r) (e : r = r') : Ev g r' := e ▸ h
theorem Ev.bs {α β : Type} {g : Nat → Option α} {f : Nat → α → Option β} {a : α} {r : β} (h : Ev g a) (k : Ev (fun n => f n a) r) : Ev (fun n => Option.bind (g n) (f n)) r := Ev.bind h k
theorem w64 {n : Int} (h : -9223372036854775808 ≤ n) (h' : n ≤ 9223372036854775807) : wrap64 n = n := by unfold wrap64; omega
theorem rd_set (l : List Int) (i j : Int) (v : Int) (hi : 0 ≤ i) (hj : 0 ≤ j) (hl : i < (l.length : Int)) : rd (l.set i.toNat v) j = if i = j then v else rd l j := by
  unfold rd
  rw [List.getD_eq_getElem?_getD, List.getD_eq_getElem?_getD, List.getElem?_set]
  by_cases e : i = j
  · subst e; rw [if_pos rfl, if_pos rfl, if_pos (by omega)]; rfl
  · rw [if_neg (by omega), if_neg e]

theorem in_eq (a b c : Int) : impl_in.f a b c = some (decide (b ≤ a ∧ a ≤ c)) := by
  unfold impl_in.f
  by_cases h : b ≤ a
  · rw [if_pos h]; simp [h]
  · rw [if_neg h]; simp [h]
theorem l1In_eq (a b c : Int) : spec_l1In.f a b c = some (decide (b ≤ a ∧ a ≤ c)) := by
  unfold spec_l1In.f
  by_cases h : a ≥ b
  · rw [if_pos h]; simp [h]
  · rw [if_neg h]; simp [h]

theorem drop_rd (l : List Int) (i : Nat) (h : i < l.length) : l.drop i = rd l (i : Int) :: l.drop (i + 1) := by
  rw [List.drop_eq_getElem_cons h]
  unfold rd
  rw [Int.toNat_natCast, List.getD_eq_getElem?_getD, List.getElem?_eq_getElem h]
  rfl
theorem rd_get (l : List Int) (i : Nat) (h : i < l.length) : rd l (i : Int) = l[i] := by
  unfold rd
  rw [Int.toNat_natCast, List.getD_eq_getElem?_getD, List.getElem?_eq_getElem h]
  rfl
theorem wsucc (i n : Nat) (h : i < n) (hn : n ≤ 9223372036854775807) : wrap64 ((i : Int) + 1) = ((i + 1 : Nat) : Int) := by
  rw [w64 (by omega) (by omega)]; omega
theorem rd_cons_succ (x : Int) (l : List Int) (i : Nat) : rd (x :: l) ((i + 1 : Nat) : Int) = rd l (i : Int) := by
  unfold rd
  simp only [Int.toNat_natCast, List.getD_cons_succ]
theorem rd_cons_zero (x : Int) (l : List Int) : rd (x :: l) 0 = x := rfl

theorem rd_take (l : List Int) (n i : Nat) (h : i < n) : rd (l.take n) (i : Int) = rd l (i : Int) := by
  unfold rd
  rw [Int.toNat_natCast, List.getD_eq_getElem?_getD, List.getD_eq_getElem?_getD, List.getElem?_take_of_lt h]

theorem toIntS_l0 (l : List Int) (hn : l.length ≤ 35184372088832) (d : Nat) : ∀ (i : Nat) (m : List Int), i + d = l.length → m.length = l.length → m.take i = l.take i →
    Ev (fun k => laws_toIntS.l0 k l m (i : Int)) l := by
  induction d with
  | zero =>
    intro i m hi hm ht
    refine Ev.s ?_
    have c : ¬ ((i : Int) < (l.length : Int)) := by omega
    simp only [laws_toIntS.l0, if_neg c]
    rw [List.take_of_length_le (by omega), List.take_of_length_le (by omega)] at ht
    rw [ht]; exact Ev.now _
  | succ d ih =>
    intro i m hi hm ht
    refine Ev.s ?_
    have c1 : ((i : Int) < (l.length : Int)) := by omega
    have c2 : (0 : Int) ≤ (i : Int) := by omega
    have c3 : ((i : Int) < (m.length : Int)) := by omega
    have e := wsucc i l.length (by omega) (by omega)
    simp only [laws_toIntS.l0, if_pos c1, if_pos c2, if_pos c3, e, Int.toNat_natCast]
    refine ih (i + 1) _ (by omega) (by simpa using hm) ?_
    rw [rd_get l i (by omega)]
    rw [List.take_succ_eq_append_getElem (by simp; omega), List.take_set_of_le (by omega), ht, List.take_succ_eq_append_getElem (by omega)]
    simp
theorem toIntS_ev (l : List Int) (hn : l.length ≤ 35184372088832) : Ev (fun k => laws_toIntS.f k l) l := by
  unfold laws_toIntS.f
  have c1 : (0 : Int) ≤ (l.length : Int) := by omega
  have c2 : ((l.length : Int) : Int).toNat ≤ 35184372088832 := by omega
  simp only [if_pos c1, if_pos c2]
  exact toIntS_l0 l hn l.length 0 _ (by omega) (by simp) (by simp)

theorem eqIntS_l0 (l m : List Int) (hl : l.length = m.length) (hn : l.length ≤ 35184372088832) (d : Nat) : ∀ (i : Nat), i + d = l.length →
    Ev (fun k => laws_eqIntS.l0 k l m (i : Int)) (decide (l.drop i = m.drop i)) := by
  induction d with
  | zero =>
    intro i hi
    refine Ev.s ?_
    have c : ¬ ((i : Int) < (l.length : Int)) := by omega
    simp only [laws_eqIntS.l0, if_neg c]
    rw [List.drop_of_length_le (by omega), List.drop_of_length_le (by omega)]
    exact Ev.now _
  | succ d ih =>
    intro i hi
    refine Ev.s ?_
    have c1 : ((i : Int) < (l.length : Int)) := by omega
    have c2 : (0 : Int) ≤ (i : Int) := by omega
    have c3 : ((i : Int) < (m.length : Int)) := by omega
    have e := wsucc i l.length (by omega) (by omega)
    simp only [laws_eqIntS.l0, if_pos c1, if_pos c2, if_pos c3, e]
    rw [drop_rd l i (by omega), drop_rd m i (by omega)]
    by_cases h : rd l (i : Int) = rd m (i : Int)
    · simp only [if_pos h]
      refine Ev.e (ih (i + 1) (by omega)) ?_
      simp [h]
    · simp only [if_neg h]
      have : (decide (rd l (i : Int) :: l.drop (i + 1) = rd m (i : Int) :: m.drop (i + 1))) = false := by
        apply decide_eq_false; intro h'; exact h (List.cons.inj h').1
      rw [this]; exact Ev.now _
theorem eqIntS_ev (l m : List Int) (hn : l.length ≤ 35184372088832) : Ev (fun k => laws_eqIntS.f k l m) (decide (l = m)) := by
  unfold laws_eqIntS.f
  by_cases h : l.length = m.length
  · have c : ((l.length : Int) = (m.length : Int)) := by omega
    simp only [if_pos c]
    exact eqIntS_l0 l m h hn l.length 0 (by omega)
  · have c : ¬ ((l.length : Int) = (m.length : Int)) := by omega
    simp only [if_neg c]
    have : decide (l = m) = false := by apply decide_eq_false; intro e; rw [e] at h; exact h rfl
    rw [this]; exact Ev.now _

/-- Are these degrees? -/
def DegB (l : List Int) : Bool := decide (1 ≤ l.length ∧ l.length ≤ 16) && l.all (fun x => decide (0 ≤ x ∧ x ≤ 16))
theorem l1All_l0 (lo hi : Int) (l : List Int) (hn : l.length ≤ 35184372088832) (d : Nat) : ∀ (i : Nat), i + d = l.length →
    Ev (fun k => spec_l1All.l0 k lo hi l (l.length : Int) (i : Int)) ((l.drop i).all (fun x => decide (lo ≤ x ∧ x ≤ hi))) := by
  induction d with
  | zero =>
    intro i h
    refine Ev.s ?_
    have c : ¬ ((i : Int) < (l.length : Int)) := by omega
    simp only [spec_l1All.l0, if_neg c]
    rw [List.drop_of_length_le (by omega)]
    exact Ev.now _
  | succ d ih =>
    intro i h
    refine Ev.s ?_
    have c1 : ((i : Int) < (l.length : Int)) := by omega
    have c2 : (0 : Int) ≤ (i : Int) := by omega
    have e := wsucc i l.length (by omega) (by omega)
    rw [drop_rd l i (by omega)]
    simp only [spec_l1All.l0, if_pos c1, if_pos c2, e, l1In_eq, Option.bind_some, decide_eq_true_eq, List.all_cons]
    by_cases h' : lo ≤ rd l (i : Int) ∧ rd l (i : Int) ≤ hi
    · simp only [if_pos h', decide_eq_true h', Bool.true_and]
      exact ih (i + 1) (by omega)
    · simp only [if_neg h', decide_eq_false h', Bool.false_and]
      exact Ev.now _
theorem l1All_ev (lo hi : Int) (l : List Int) (hn : l.length ≤ 35184372088832) : Ev (fun k => spec_l1All.f k l lo hi) (l.all (fun x => decide (lo ≤ x ∧ x ≤ hi))) := by
  unfold spec_l1All.f
  exact l1All_l0 lo hi l hn l.length 0 (by omega)
theorem cyGood_ev (l : List Int) (hn : l.length ≤ 35184372088832) : Ev (fun k => spec_cyGood.f k l) (DegB l) := by
  unfold spec_cyGood.f DegB
  simp only [l1In_eq, Option.bind_some, decide_eq_true_eq]
  by_cases h : 1 ≤ l.length ∧ l.length ≤ 16
  · simp only [if_pos (show (1 : Int) ≤ (l.length : Int) ∧ (l.length : Int) ≤ 16 from by omega), decide_eq_true h, Bool.true_and]
    exact Ev.bs (l1All_ev 0 16 l hn) (Ev.now _)
  · simp only [if_neg (show ¬ ((1 : Int) ≤ (l.length : Int) ∧ (l.length : Int) ≤ 16) from by omega), decide_eq_false h, Bool.false_and]
    exact Ev.now _
theorem isDegrees1_eq (x : Int) : impl_IsDegrees_1.f x = some (!decide (0 ≤ x ∧ x ≤ 16)) := by
  unfold impl_IsDegrees_1.f; rw [in_eq]; rfl
theorem indexFunc_l0 (l : List Int) (hn : l.length ≤ 35184372088832) (d : Nat) : ∀ (i : Nat), i + d = l.length →
    ∃ r : Int, Ev (fun k => slices_IndexFunc_int_int.l0 k l (l.length : Int) (i : Int)) r ∧ decide (r ≥ 0) = !(l.drop i).all (fun x => decide (0 ≤ x ∧ x ≤ 16)) := by
  induction d with
  | zero =>
    intro i h
    refine ⟨-1, Ev.s ?_, by rw [List.drop_of_length_le (by omega)]; rfl⟩
    have c : ¬ ((i : Int) < (l.length : Int)) := by omega
    simp only [slices_IndexFunc_int_int.l0, if_neg c]
    exact Ev.now _
  | succ d ih =>
    intro i h
    have c1 : ((i : Int) < (l.length : Int)) := by omega
    have c2 : (0 : Int) ≤ (i : Int) := by omega
    have e := wsucc i l.length (by omega) (by omega)
    rw [drop_rd l i (by omega)]
    by_cases h' : 0 ≤ rd l (i : Int) ∧ rd l (i : Int) ≤ 16
    · obtain ⟨r, hr, hd⟩ := ih (i + 1) (by omega)
      refine ⟨r, Ev.s ?_, by simp only [List.all_cons, decide_eq_true h', Bool.true_and, hd]⟩
      simp only [slices_IndexFunc_int_int.l0, if_pos c1, if_pos c2, e, isDegrees1_eq, Option.bind_some, decide_eq_true h', Bool.not_true, Bool.false_eq_true, if_false]
      exact hr
    · refine ⟨i, Ev.s ?_, by simp only [List.all_cons, decide_eq_false h', Bool.false_and, Bool.not_false]; exact decide_eq_true (by omega)⟩
      simp only [slices_IndexFunc_int_int.l0, if_pos c1, if_pos c2, e, isDegrees1_eq, Option.bind_some, decide_eq_false h', Bool.not_false, if_true]
      exact Ev.now _
theorem isDegrees_ev (l : List Int) (hn : l.length ≤ 35184372088832) : Ev (fun k => impl_IsDegrees.f k l) (DegB l) := by
  unfold impl_IsDegrees.f DegB slices_ContainsFunc_int_int.f slices_IndexFunc_int_int.f
  simp only [in_eq, Option.bind_some, decide_eq_true_eq]
  by_cases h : 1 ≤ l.length ∧ l.length ≤ 16
  · simp only [if_pos (show (1 : Int) ≤ (l.length : Int) ∧ (l.length : Int) ≤ 16 from by omega), decide_eq_true h, Bool.true_and]
    obtain ⟨r, hr, hd⟩ := indexFunc_l0 l hn l.length 0 (by omega)
    rw [List.drop_zero] at hd
    refine Ev.bs (a := decide (r ≥ 0)) (Ev.bs hr (Ev.now _)) (Ev.c ?_)
    rw [hd]; simp
  · simp only [if_neg (show ¬ ((1 : Int) ≤ (l.length : Int) ∧ (l.length : Int) ≤ 16) from by omega), decide_eq_false h, Bool.false_and]
    exact Ev.now _

/-- The excess from a place on. -/
def sumL : List Int → Int
  | [] => 0
  | x :: r => x + sumL r
theorem sumL_append (l m : List Int) : sumL (l ++ m) = sumL l + sumL m := by
  induction l with
  | nil => simp [sumL]
  | cons x r ih => simp only [List.cons_append, sumL, ih]; omega
theorem DegB_iff {l : List Int} (h : DegB l = true) : (1 ≤ l.length ∧ l.length ≤ 16) ∧ ∀ x ∈ l, 0 ≤ x ∧ x ≤ 16 := by
  unfold DegB at h
  simp only [Bool.and_eq_true, decide_eq_true_eq, List.all_eq_true] at h
  exact ⟨h.1, h.2⟩
theorem sumL_bd (l : List Int) (h : ∀ x ∈ l, 0 ≤ x ∧ x ≤ 16) : 0 ≤ sumL l ∧ sumL l ≤ 16 * (l.length : Int) := by
  induction l with
  | nil => simp [sumL]
  | cons x r ih =>
    have := ih (fun y hy => h y (List.mem_cons_of_mem _ hy))
    have hx := h x List.mem_cons_self
    simp only [sumL, List.length_cons]; omega
theorem deg_drop {l : List Int} (h : DegB l = true) (i : Nat) : 0 ≤ sumL (l.drop i) ∧ sumL (l.drop i) ≤ 256 := by
  obtain ⟨h1, h2⟩ := DegB_iff h
  have := sumL_bd (l.drop i) (fun x hx => h2 x (List.mem_of_mem_drop hx))
  rw [List.length_drop] at this
  omega
theorem deg_rd {l : List Int} (h : DegB l = true) (i : Nat) (hi : i < l.length) : 0 ≤ rd l (i : Int) ∧ rd l (i : Int) ≤ 16 := by
  rw [rd_get l i hi]
  exact (DegB_iff h).2 _ (List.getElem_mem _)
/-- The excess of degrees. -/
def Exc (l : List Int) : Int := (l.length : Int) - sumL l
theorem cyExcess_ev (l : List Int) (h : DegB l = true) : Ev (fun k => spec_cyExcess.f k l) (Exc l) := by
  have hl := (DegB_iff h).1
  have key : ∀ (d i : Nat) (x : Int), i + d = l.length → -1000 ≤ x - sumL (l.drop i) ∧ x ≤ 1000 → Ev (fun k => spec_cyExcess.l0 k x l (l.length : Int) (i : Int)) (x - sumL (l.drop i)) := by
    intro d
    induction d with
    | zero =>
      intro i x hi hx
      refine Ev.s ?_
      have c : ¬ ((i : Int) < (l.length : Int)) := by omega
      simp only [spec_cyExcess.l0, if_neg c]
      rw [List.drop_of_length_le (by omega)]
      exact Ev.c (by simp [sumL])
    | succ d ih =>
      intro i x hi hx
      have hr := deg_rd h i (by omega)
      have h0 := deg_drop h (i + 1)
      rw [drop_rd l i (by omega), sumL] at hx ⊢
      refine Ev.s ?_
      have c1 : ((i : Int) < (l.length : Int)) := by omega
      have c2 : (0 : Int) ≤ (i : Int) := by omega
      have e := wsucc i l.length (by omega) (by omega)
      have e2 : wrap64 (x - rd l (i : Int)) = x - rd l (i : Int) := w64 (by omega) (by omega)
      simp only [spec_cyExcess.l0, if_pos c1, if_pos c2, e, e2]
      exact Ev.e (ih (i + 1) (x - rd l (i : Int)) (by omega) (by omega)) (by omega)
  unfold spec_cyExcess.f Exc
  have h0 := deg_drop h 0
  have := key l.length 0 (l.length : Int) (by omega) (by omega)
  rwa [List.drop_zero] at this
theorem excess_ev (l : List Int) (h : DegB l = true) : Ev (fun k => impl_excess.f k l) (Exc l) := by
  have hl := (DegB_iff h).1
  have key : ∀ (d i : Nat) (x : Int), i + d = l.length → -1000 ≤ x - sumL (l.drop i) ∧ x ≤ 1000 → Ev (fun k => impl_excess.l0 k x l (l.length : Int) (i : Int)) (x - sumL (l.drop i)) := by
    intro d
    induction d with
    | zero =>
      intro i x hi hx
      refine Ev.s ?_
      have c : ¬ ((i : Int) < (l.length : Int)) := by omega
      simp only [impl_excess.l0, if_neg c]
      rw [List.drop_of_length_le (by omega)]
      exact Ev.c (by simp [sumL])
    | succ d ih =>
      intro i x hi hx
      have hr := deg_rd h i (by omega)
      have h0 := deg_drop h (i + 1)
      rw [drop_rd l i (by omega), sumL] at hx ⊢
      refine Ev.s ?_
      have c1 : ((i : Int) < (l.length : Int)) := by omega
      have c2 : (0 : Int) ≤ (i : Int) := by omega
      have e := wsucc i l.length (by omega) (by omega)
      have e2 : wrap64 (x - rd l (i : Int)) = x - rd l (i : Int) := w64 (by omega) (by omega)
      simp only [impl_excess.l0, if_pos c1, if_pos c2, e, e2]
      exact Ev.e (ih (i + 1) (x - rd l (i : Int)) (by omega) (by omega)) (by omega)
  unfold impl_excess.f Exc
  have h0 := deg_drop h 0
  have := key l.length 0 (l.length : Int) (by omega) (by omega)
  rwa [List.drop_zero] at this

/-- No sum of the first ones is -r or less. -/
def forB (r : Int) : Int → List Int → Bool
  | _, [] => true
  | s, x :: t => if s + (x - 1) ≤ -r then false else forB r (s + (x - 1)) t
/-- Are degrees a forest? -/
def ForB (l : List Int) : Bool := decide (Exc l ≥ 1) && forB (Exc l) 0 (l.take (l.length - 1))
theorem exc_bd {l : List Int} (h : DegB l = true) : -1000 ≤ Exc l ∧ Exc l ≤ 16 := by
  have h1 := (DegB_iff h).1
  have h0 := deg_drop h 0
  rw [List.drop_zero] at h0
  unfold Exc
  omega
theorem fo_wrap (s x : Int) (i : Nat) (hi : i ≤ 16) (hs : -(i : Int) ≤ s ∧ s ≤ 16 * (i : Int)) (hx : 0 ≤ x ∧ x ≤ 16) : wrap64 (x - 1) = x - 1 ∧ wrap64 (s + (x - 1)) = s + (x - 1) :=
  ⟨w64 (by omega) (by omega), w64 (by omega) (by omega)⟩
theorem fo_inv (s x : Int) (i : Nat) (hs : -(i : Int) ≤ s ∧ s ≤ 16 * (i : Int)) (hx : 0 ≤ x ∧ x ≤ 16) : -((i + 1 : Nat) : Int) ≤ s + (x - 1) ∧ s + (x - 1) ≤ 16 * ((i + 1 : Nat) : Int) := by omega
theorem isForest_ev (l : List Int) (h : DegB l = true) : Ev (fun k => impl_isForest.f k l) (ForB l) := by
  have hl := (DegB_iff h).1
  have hr := exc_bd h
  unfold impl_isForest.f ForB
  refine Ev.bs (excess_ev l h) ?_
  have e1 : wrap64 ((l.length : Int) - 1) = ((l.length - 1 : Nat) : Int) := by rw [w64 (by omega) (by omega)]; omega
  have c1 : (0 : Int) ≤ ((l.length - 1 : Nat) : Int) := by omega
  have c2 : ((l.length - 1 : Nat) : Int) ≤ (l.length : Int) := by omega
  simp only [e1, if_pos c1, if_pos c2, Int.toNat_natCast]
  generalize hr' : Exc l = r at hr
  have hb : ∀ i : Nat, i < (l.take (l.length - 1)).length → 0 ≤ rd (l.take (l.length - 1)) (i : Int) ∧ rd (l.take (l.length - 1)) (i : Int) ≤ 16 := by
    intro i hi
    rw [List.length_take] at hi
    rw [rd_take _ _ _ (by omega)]
    exact deg_rd h i (by omega)
  have hn : (l.take (l.length - 1)).length ≤ 16 := by rw [List.length_take]; omega
  generalize l.take (l.length - 1) = m at hb hn
  clear hr' e1 c1 c2 hl h
  have key : ∀ (d i : Nat) (s : Int), i + d = m.length → -(i : Int) ≤ s ∧ s ≤ 16 * (i : Int) → Ev (fun k => impl_isForest.l0 k r s m (m.length : Int) (i : Int)) (decide (r ≥ 1) && forB r s (m.drop i)) := by
    intro d
    induction d with
    | zero =>
      intro i s hi hs
      refine Ev.s ?_
      have c : ¬ ((i : Int) < (m.length : Int)) := by omega
      simp only [impl_isForest.l0, if_neg c]
      rw [List.drop_of_length_le (by omega)]
      exact Ev.c (by simp [forB])
    | succ d ih =>
      intro i s hi hs
      refine Ev.s ?_
      have hx := hb i (by omega)
      have c1 : ((i : Int) < (m.length : Int)) := by omega
      have c2 : (0 : Int) ≤ (i : Int) := by omega
      have e := wsucc i m.length (by omega) (by omega)
      obtain ⟨w1, w2⟩ := fo_wrap s (rd m (i : Int)) i (by omega) hs hx
      have iv := fo_inv s (rd m (i : Int)) i hs hx
      have w3 : wrap64 (-r) = -r := w64 (by omega) (by omega)
      rw [drop_rd m i (by omega)]
      by_cases t : s + (rd m (i : Int) - 1) ≤ -r
      · simp only [impl_isForest.l0, if_pos c1, if_pos c2, w1, w2, w3, if_pos t, forB, Bool.and_false]
        exact Ev.now _
      · simp only [impl_isForest.l0, if_pos c1, if_pos c2, w1, w2, w3, if_neg t, forB, e]
        exact ih (i + 1) _ (by omega) iv
  have := key m.length 0 0 (by omega) (by omega)
  rwa [List.drop_zero] at this
theorem cyForest_ev (l : List Int) (h : DegB l = true) : Ev (fun k => spec_cyForest.f k l) (ForB l) := by
  have hl := (DegB_iff h).1
  have hr := exc_bd h
  unfold spec_cyForest.f ForB
  refine Ev.bs (cyExcess_ev l h) ?_
  generalize hr' : Exc l = r at hr
  by_cases r1 : r < 1
  · simp only [if_pos r1]
    rw [decide_eq_false (by omega), Bool.false_and]
    exact Ev.now _
  simp only [if_neg r1]
  rw [decide_eq_true (by omega), Bool.true_and]
  have key : ∀ (d i : Nat) (s : Int), i + d = l.length → -(i : Int) ≤ s ∧ s ≤ 16 * (i : Int) → Ev (fun k => spec_cyForest.l0 k l r s l (l.length : Int) (i : Int)) (forB r s ((l.take (l.length - 1)).drop i)) := by
    intro d
    induction d with
    | zero =>
      intro i s hi hs
      refine Ev.s ?_
      have c : ¬ ((i : Int) < (l.length : Int)) := by omega
      simp only [spec_cyForest.l0, if_neg c]
      rw [List.drop_of_length_le (by rw [List.length_take]; omega)]
      exact Ev.now _
    | succ d ih =>
      intro i s hi hs
      refine Ev.s ?_
      have hx := deg_rd h i (by omega)
      have c1 : ((i : Int) < (l.length : Int)) := by omega
      have c2 : (0 : Int) ≤ (i : Int) := by omega
      have e := wsucc i l.length (by omega) (by omega)
      obtain ⟨w1, w2⟩ := fo_wrap s (rd l (i : Int)) i (by omega) hs hx
      have iv := fo_inv s (rd l (i : Int)) i hs hx
      have w3 : wrap64 (-r) = -r := w64 (by omega) (by omega)
      have hi' := ih (i + 1) (s + (rd l (i : Int) - 1)) (by omega) iv
      by_cases last : i + 1 < l.length
      · have c4 : ((i + 1 : Nat) : Int) < (l.length : Int) := by omega
        rw [drop_rd (l.take (l.length - 1)) i (by rw [List.length_take]; omega), rd_take _ _ _ (by omega)]
        by_cases t : s + (rd l (i : Int) - 1) ≤ -r
        · simp only [spec_cyForest.l0, if_pos c1, if_pos c2, w1, w2, w3, if_pos t, e, if_pos c4, forB]
          exact Ev.now _
        · simp only [spec_cyForest.l0, if_pos c1, if_pos c2, w1, w2, w3, if_neg t, e, forB]
          exact hi'
      · have c4 : ¬ ((i + 1 : Nat) : Int) < (l.length : Int) := by omega
        rw [List.drop_of_length_le (by rw [List.length_take]; omega)]
        rw [List.drop_of_length_le (by rw [List.length_take]; omega)] at hi'
        by_cases t : s + (rd l (i : Int) - 1) ≤ -r
        · simp only [spec_cyForest.l0, if_pos c1, if_pos c2, w1, w2, w3, if_pos t, e, if_neg c4]
          exact hi'
        · simp only [spec_cyForest.l0, if_pos c1, if_pos c2, w1, w2, w3, if_neg t, e]
          exact hi'
  have := key l.length 0 0 (by omega) (by omega)
  rwa [List.drop_zero] at this

theorem rd_last (a : List Int) (x : Int) : rd (a ++ [x]) (a.length : Int) = x := by
  unfold rd
  rw [Int.toNat_natCast, List.getD_eq_getElem?_getD, List.getElem?_append_right (Nat.le_refl _), Nat.sub_self]
  rfl
theorem rd_app (a b : List Int) (i : Int) (h0 : 0 ≤ i) (h : i < (a.length : Int)) : rd (a ++ b) i = rd a i := by
  unfold rd
  rw [List.getD_eq_getElem?_getD, List.getD_eq_getElem?_getD, List.getElem?_append_left (by omega)]
theorem take_last (a : List Int) (x : Int) : (a ++ [x]).take a.length = a := by
  rw [List.take_append_of_le_length (Nat.le_refl _), List.take_length]
theorem set_last (a : List Int) (x y : Int) : (a ++ [x]).set a.length y = a ++ [y] := by
  rw [List.set_append_right _ _ (Nat.le_refl _), Nat.sub_self]
  rfl
theorem last_len (a : List Int) (x : Int) (h : a.length ≤ 1000) : wrap64 (((a ++ [x]).length : Int) - 1) = (a.length : Int) := by
  rw [List.length_append, List.length_singleton, w64 (by omega) (by omega)]; omega

theorem cyIs_ev (l : List Int) (hn : l.length ≤ 35184372088832) : Ev (fun k => spec_cyIs.f k l) (DegB l && ForB l) := by
  unfold spec_cyIs.f
  refine Ev.bs (cyGood_ev l hn) ?_
  by_cases hd : DegB l = true
  · simp only [hd, Bool.true_and]; exact Ev.bs (cyForest_ev l hd) (Ev.now _)
  · simp only [Bool.not_eq_true _ ▸ hd, Bool.false_and]; exact Ev.now _
theorem areForest_ev (l : List Int) (hn : l.length ≤ 35184372088832) : Ev (fun k => impl_areForest.f k l) (DegB l && ForB l) := by
  unfold impl_areForest.f
  refine Ev.bs (isDegrees_ev l hn) ?_
  by_cases hd : DegB l = true
  · simp only [hd, Bool.true_and]; exact Ev.bs (isForest_ev l hd) (Ev.now _)
  · simp only [Bool.not_eq_true _ ▸ hd, Bool.false_and]; exact Ev.now _

/-- An ordered forest, by its first tree's children and the rest. -/
inductive F where
  | nil : F
  | node : F → F → F
namespace F
/-- Its path. -/
def word : F → List UInt8
  | nil => []
  | node a b => 85 :: (word a ++ 68 :: word b)
/-- How many trees. -/
def cnt : F → Int
  | nil => 0
  | node _ b => 1 + cnt b
/-- The degrees of its nodes. -/
def tl : F → List Int
  | nil => []
  | node a b => cnt a :: (tl a ++ tl b)
theorem tl_len : ∀ f : F, 2 * (tl f).length = (word f).length
  | nil => rfl
  | node a b => by
    have := tl_len a
    have := tl_len b
    simp only [tl, word, List.length_cons, List.length_append]
    omega
theorem cnt_bd : ∀ f : F, 0 ≤ cnt f ∧ cnt f ≤ ((word f).length : Int)
  | nil => by simp [cnt, word]
  | node a b => by
    have := cnt_bd b
    simp only [cnt, word, List.length_cons, List.length_append]
    omega
end F

theorem F.cnt0 : ∀ f : F, f.cnt = 0 → f = .nil
  | .nil, _ => rfl
  | .node a b, h => by
    have := F.cnt_bd b
    simp only [F.cnt] at h
    omega
theorem F.split : ∀ (g : F) (x : Int), 0 ≤ x → x ≤ g.cnt → ∃ a b : F, a.cnt = x ∧ b.cnt = g.cnt - x ∧ g.tl = a.tl ++ b.tl
  | .nil, x, h0, h1 => ⟨.nil, .nil, by simp only [F.cnt] at h1 ⊢; omega, by simp only [F.cnt] at h1 ⊢; omega, rfl⟩
  | .node a b, x, h0, h1 => by
    by_cases z : x = 0
    · exact ⟨.nil, .node a b, by simp only [F.cnt]; omega, by omega, rfl⟩
    · simp only [F.cnt] at h1
      obtain ⟨c, d, hc, hd, he⟩ := F.split b (x - 1) (by omega) (by omega)
      refine ⟨.node a c, d, by simp only [F.cnt]; omega, by simp only [F.cnt]; omega, ?_⟩
      simp only [F.tl, he, List.append_assoc, List.cons_append]
/-- Degrees, read with a need. -/
def PD : Int → List Int → Prop
  | m, [] => m = 0
  | m, x :: r => 1 ≤ m ∧ 0 ≤ x ∧ PD (m + (x - 1)) r
theorem F.ofPD : ∀ (l : List Int) (m : Int), PD m l → ∃ f : F, f.cnt = m ∧ l = f.tl
  | [], m, h => ⟨.nil, by have : m = 0 := h; rw [this]; rfl, rfl⟩
  | x :: r, m, h => by
    obtain ⟨h1, h2, h3⟩ := h
    obtain ⟨g, hg, hr⟩ := F.ofPD r _ h3
    obtain ⟨a, b, ha, hb, he⟩ := F.split g x h2 (by omega)
    refine ⟨.node a b, by simp only [F.cnt]; omega, ?_⟩
    simp only [F.tl, ha, hr, he]
theorem PD_of : ∀ (l : List Int) (s : Int), l ≠ [] → (∀ x ∈ l, 0 ≤ x) → 0 ≤ s → forB 1 s (l.take (l.length - 1)) = true → 1 + s + sumL l - (l.length : Int) = 0 → PD (1 + s) l
  | [], _, h, _, _, _, _ => absurd rfl h
  | [x], s, _, hx, hs, _, ht => by
    have := hx x (List.mem_cons_self ..)
    refine ⟨by omega, this, ?_⟩
    show 1 + s + (x - 1) = 0
    simp only [sumL, List.length_singleton] at ht
    omega
  | x :: y :: r, s, _, hx, hs, hf, ht => by
    have h0 := hx x (List.mem_cons_self ..)
    have e : (x :: y :: r).take ((x :: y :: r).length - 1) = x :: (y :: r).take ((y :: r).length - 1) := rfl
    rw [e] at hf
    simp only [forB] at hf
    by_cases c : s + (x - 1) ≤ -1
    · rw [if_pos c] at hf; cases hf
    · rw [if_neg c] at hf
      refine ⟨by omega, h0, ?_⟩
      rw [show 1 + s + (x - 1) = 1 + (s + (x - 1)) from by omega]
      refine PD_of (y :: r) _ (by simp) (fun z hz => hx z (List.mem_cons_of_mem _ hz)) (by omega) hf ?_
      rw [List.length_cons] at ht
      simp only [sumL] at ht ⊢
      omega
/-- The degrees of a tree. -/
theorem F.ofDeg (l : List Int) (hd : DegB l = true) (hf : ForB l = true) (he : Exc l = 1) : ∃ f : F, l = f.cnt :: f.tl := by
  obtain ⟨h1, h2⟩ := DegB_iff hd
  unfold ForB at hf
  rw [he] at hf
  simp only [Bool.and_eq_true] at hf
  unfold Exc at he
  have hpd := PD_of l 0 (fun h => by rw [h] at h1; simp at h1) (fun x hx => (h2 x hx).1) (Int.le_refl _) hf.2 (by omega)
  obtain ⟨f, hc, hl⟩ := F.ofPD l _ hpd
  cases f with
  | nil => simp only [F.cnt] at hc; omega
  | node a b =>
    have : b = .nil := F.cnt0 b (by simp only [F.cnt] at hc; omega)
    subst this
    refine ⟨a, ?_⟩
    rw [hl]
    simp only [F.tl, List.append_nil]

theorem treeEnd_l0 (l : List Int) (hl : l.length ≤ 16) : ∀ (f : F) (i : Nat) (m : Int) (rest : List Int) (R : Int), l.drop i = f.tl ++ rest → (f = .nil ∨ i < l.length) → 0 ≤ m → m ≤ 100000 → (∀ x ∈ l, 0 ≤ x ∧ x ≤ 16) → m + f.cnt + 16 * (f.tl.length : Int) ≤ 100000 →
    Ev (fun k => impl_treeEnd.l0 k l ((i + f.tl.length : Nat) : Int) m) R → Ev (fun k => impl_treeEnd.l0 k l (i : Int) (m + f.cnt)) R := by
  intro f
  induction f with
  | nil =>
    intro i m rest R _ _ _ _ _ _ hR
    rw [show m + F.nil.cnt = m from by simp only [F.cnt]; omega]
    exact hR
  | node a b iha ihb =>
    intro i m rest R hd hi hm hm2 hx hmc hR
    have hi : i < l.length := by
      rcases hi with h | h
      · cases h
      · exact h
    have e1 : (F.node a b).tl ++ rest = a.cnt :: (a.tl ++ (b.tl ++ rest)) := by simp only [F.tl, List.cons_append, List.append_assoc]
    have hlen : (F.node a b).tl.length = a.tl.length + b.tl.length + 1 := by simp only [F.tl, List.length_cons, List.length_append]
    rw [e1, drop_rd l i hi] at hd
    injection hd with h1 h2
    have h3 : l.drop (i + 1 + a.tl.length) = b.tl ++ rest := by
      rw [← List.drop_drop, h2, List.drop_append_of_le_length (Nat.le_refl _), List.drop_length, List.nil_append]
    have ca := F.cnt_bd a
    have cb := F.cnt_bd b
    simp only [F.cnt] at hmc ⊢
    have hrd := hx (rd l (i : Int)) (by rw [rd_get l i hi]; exact List.getElem_mem _)
    have hB := ihb (i + 1 + a.tl.length) m rest R h3 (by
      by_cases c : i + 1 + a.tl.length < l.length
      · exact .inr c
      · left
        rw [List.drop_of_length_le (by omega)] at h3
        have : b.tl = [] := (List.append_eq_nil_iff.1 h3.symm).1
        cases b with
        | nil => rfl
        | node _ _ => simp only [F.tl] at this; cases this) hm hm2 hx (by omega) (by rw [show i + 1 + a.tl.length + b.tl.length = i + (F.node a b).tl.length from by omega]; exact hR)
    have hA := iha (i + 1) (m + b.cnt) (b.tl ++ rest) R h2 (by
      by_cases c : i + 1 < l.length
      · exact .inr c
      · left
        rw [List.drop_of_length_le (by omega)] at h2
        have : a.tl = [] := (List.append_eq_nil_iff.1 h2.symm).1
        cases a with
        | nil => rfl
        | node _ _ => simp only [F.tl] at this; cases this) (by omega) (by omega) hx (by rw [h1] at hrd; omega) hB
    refine Ev.s ?_
    have c1 : m + (1 + b.cnt) > 0 := by omega
    have c2 : (0 : Int) ≤ (i : Int) := by omega
    have c3 : (i : Int) < (l.length : Int) := by omega
    have w1 : wrap64 (a.cnt - 1) = a.cnt - 1 := by rw [h1] at hrd; exact w64 (by omega) (by omega)
    have w2 : wrap64 (m + (1 + b.cnt) + (a.cnt - 1)) = m + b.cnt + a.cnt := by rw [h1] at hrd; clear w1; rw [w64 (by omega) (by omega)]; omega
    have w3 := wsucc i 16 (by omega) (by omega)
    simp only [impl_treeEnd.l0, if_pos c1, if_pos c2, if_pos c3, h1, w1, w2, w3]
    exact hA
/-- The degrees of its trees, one by one. -/
def F.trs : F → List (List Int)
  | .nil => []
  | .node a b => (a.cnt :: a.tl) :: F.trs b
theorem trs_len : ∀ f : F, (F.trs f).length ≤ f.tl.length
  | .nil => Nat.le_refl _
  | .node a b => by
    have := trs_len b
    simp only [F.trs, F.tl, List.length_cons, List.length_append]
    omega
theorem treesIn_l0 (l : List Int) (hl : l.length ≤ 16) (hx : ∀ x ∈ l, 0 ≤ x ∧ x ≤ 16) : ∀ (f : F) (i : Nat) (acc : List (List Int)), i ≤ l.length → l.drop i = f.tl → acc.length + f.tl.length ≤ 1000 →
    Ev (fun k => impl_treesIn.l0 k l acc (i : Int)) (acc ++ F.trs f) := by
  intro f
  induction f with
  | nil =>
    intro i acc hi hd _
    have : l.length - i = 0 := by
      have := congrArg List.length hd
      rwa [List.length_drop] at this
    refine Ev.s ?_
    have c : ¬ ((i : Int) < (l.length : Int)) := by omega
    simp only [impl_treesIn.l0, if_neg c, F.trs, List.append_nil]
    exact Ev.now _
  | node a b iha ihb =>
    intro i acc hi hd ho
    have hlen : (F.node a b).tl.length = a.tl.length + b.tl.length + 1 := by simp only [F.tl, List.length_cons, List.length_append]
    have hdl : l.length - i = (F.node a b).tl.length := by rw [← hd, List.length_drop]
    have hi' : i < l.length := by omega
    have cnode : (F.node a .nil).cnt = 1 := rfl
    have lnode : (F.node a .nil).tl.length = a.tl.length + 1 := by simp only [F.tl, List.length_cons, List.append_nil]
    have hd' : l.drop i = (F.node a .nil).tl ++ b.tl := by rw [hd]; simp only [F.tl, List.append_nil, List.cons_append]
    have hte := treeEnd_l0 l hl (.node a .nil) i 0 b.tl ((i + (a.tl.length + 1) : Nat) : Int) hd' (.inr hi') (Int.le_refl _) (by omega) hx (by rw [cnode, lnode]; omega) (by
      refine Ev.s ?_
      rw [lnode]
      have c : ¬ ((0 : Int) > 0) := by omega
      simp only [impl_treeEnd.l0, if_neg c]
      exact Ev.now _)
    rw [cnode, Int.zero_add] at hte
    have hd2 : l.drop (i + (a.tl.length + 1)) = b.tl := by
      rw [← List.drop_drop, hd', ← lnode, List.drop_append_of_le_length (Nat.le_refl _), List.drop_length, List.nil_append]
    have hcut : (l.take (i + (a.tl.length + 1))).drop i = a.cnt :: a.tl := by
      rw [List.drop_take, hd', show i + (a.tl.length + 1) - i = (F.node a .nil).tl.length from by omega, List.take_append_of_le_length (Nat.le_refl _), List.take_length]
      simp only [F.tl, List.append_nil]
    have hnext := ihb (i + (a.tl.length + 1)) (acc ++ [a.cnt :: a.tl]) (by omega) hd2 (by rw [List.length_append, List.length_singleton]; omega)
    refine Ev.s ?_
    have c1 : ((i : Int) < (l.length : Int)) := by omega
    have c2 : (0 : Int) ≤ (i : Int) := by omega
    have c3 : (i : Int) ≤ ((i + (a.tl.length + 1) : Nat) : Int) := by omega
    have c4 : ((i + (a.tl.length + 1) : Nat) : Int) ≤ (l.length : Int) := by omega
    have c5 : (a.cnt :: a.tl).length < 17592186044416 := by rw [List.length_cons]; omega
    have c6 : acc.length < 5864062014805 := by omega
    simp only [impl_treesIn.l0, if_pos c1]
    unfold impl_treeEnd.f
    refine Ev.bs hte ?_
    simp only [if_pos c2, if_pos c3, if_pos c4, Int.toNat_natCast, hcut, slices_Clone_int_int.f, if_pos c5, Option.bind_some, if_pos c6]
    rw [List.append_assoc] at hnext
    exact hnext
theorem treesIn_ev (f : F) (hl : f.tl.length ≤ 16) (hx : ∀ x ∈ f.tl, 0 ≤ x ∧ x ≤ 16) : Ev (fun k => impl_treesIn.f k f.tl) (F.trs f) :=
  treesIn_l0 f.tl hl hx f 0 [] (Nat.zero_le _) (by rw [List.drop_zero]) (by rw [List.length_nil]; omega)

theorem PDr_of (r : Int) : ∀ (l : List Int) (s : Int), l ≠ [] → (∀ x ∈ l, 0 ≤ x) → 0 < r + s → forB r s (l.take (l.length - 1)) = true → r + s + sumL l - (l.length : Int) = 0 → PD (r + s) l
  | [], _, h, _, _, _, _ => absurd rfl h
  | [x], s, _, hx, hs, _, ht => by
    have := hx x (List.mem_cons_self ..)
    refine ⟨by omega, this, ?_⟩
    show r + s + (x - 1) = 0
    simp only [sumL, List.length_singleton] at ht
    omega
  | x :: y :: q, s, _, hx, hs, hf, ht => by
    have h0 := hx x (List.mem_cons_self ..)
    have e : (x :: y :: q).take ((x :: y :: q).length - 1) = x :: (y :: q).take ((y :: q).length - 1) := rfl
    rw [e] at hf
    simp only [forB] at hf
    by_cases c : s + (x - 1) ≤ -r
    · rw [if_pos c] at hf; cases hf
    · rw [if_neg c] at hf
      refine ⟨by omega, h0, ?_⟩
      rw [show r + s + (x - 1) = r + (s + (x - 1)) from by omega]
      refine PDr_of r (y :: q) _ (by simp) (fun z hz => hx z (List.mem_cons_of_mem _ hz)) (by omega) hf ?_
      rw [List.length_cons] at ht
      simp only [sumL] at ht ⊢
      omega
/-- The degrees of a forest. -/
theorem F.ofForest (l : List Int) (hd : DegB l = true) (hf : ForB l = true) : ∃ f : F, l = f.tl := by
  obtain ⟨h1, h2⟩ := DegB_iff hd
  unfold ForB at hf
  simp only [Bool.and_eq_true, decide_eq_true_eq] at hf
  have hpd := PDr_of (Exc l) l 0 (fun h => by rw [h] at h1; simp at h1) (fun x hx => (h2 x hx).1) (by omega) hf.2 (by unfold Exc; omega)
  obtain ⟨f, _, hl⟩ := F.ofPD l _ hpd
  exact ⟨f, hl⟩

/-- k, k + 1, .. -/
def upL : Int → Nat → List Int
  | _, 0 => []
  | k, n + 1 => k :: upL (k + 1) n
theorem upL_len : ∀ (n : Nat) (k : Int), (upL k n).length = n
  | 0, _ => rfl
  | n + 1, k => by simp only [upL, List.length_cons, upL_len n]
theorem upL_snoc : ∀ (n : Nat) (k : Int), upL k (n + 1) = upL k n ++ [k + n]
  | 0, k => by simp [upL]
  | n + 1, k => by
    rw [upL, upL_snoc n (k + 1), upL, List.cons_append, Int.natCast_succ, show k + 1 + (n : Int) = k + ((n : Int) + 1) from by omega]
theorem upL_rd : ∀ (n i : Nat) (k : Int), i < n → rd (upL k n) (i : Int) = k + i
  | n + 1, 0, k, _ => by simp [upL, rd_cons_zero]
  | n + 1, i + 1, k, h => by
    rw [upL, rd_cons_succ, upL_rd n i (k + 1) (by omega), Int.natCast_succ]; omega
theorem markIntS_ev (l : List Int) (hl : l.length ≤ 2000000) : Ev (fun k => laws_markIntS.f k l 1) (1 + (l.length : Int), upL 1 l.length) := by
  have key : ∀ (d i : Nat) (m : List Int), i + d = l.length → m.length = l.length → m.take i = upL 1 i → Ev (fun k => laws_markIntS.l0 k m (1 + (i : Int)) (i : Int)) (1 + (l.length : Int), upL 1 l.length) := by
    intro d
    induction d with
    | zero =>
      intro i m hi hm ht
      refine Ev.s ?_
      have c : ¬ ((i : Int) < (m.length : Int)) := by omega
      simp only [laws_markIntS.l0, if_neg c]
      rw [List.take_of_length_le (by omega)] at ht
      rw [ht, show i = l.length from by omega]
      exact Ev.now _
    | succ d ih =>
      intro i m hi hm ht
      refine Ev.s ?_
      have c1 : ((i : Int) < (m.length : Int)) := by omega
      have c2 : (0 : Int) ≤ (i : Int) := by omega
      have e := wsucc i l.length (by omega) (by omega)
      have e2 : wrap64 (1 + (i : Int) + 1) = 1 + ((i + 1 : Nat) : Int) := by rw [w64 (by omega) (by omega)]; omega
      simp only [laws_markIntS.l0, if_pos c1, if_pos c2, e, e2, Int.toNat_natCast]
      refine ih (i + 1) _ (by omega) (by simpa using hm) ?_
      rw [List.take_succ_eq_append_getElem (by simp; omega), List.take_set_of_le (by omega), ht, upL_snoc]
      simp
  have := key l.length 0 l (by omega) rfl rfl
  exact this
theorem heldIntS_ev (n : Nat) (hn : n ≤ 2000000) : Ev (fun k => laws_heldIntS.f k (upL 1 n) 1) (1 + (n : Int)) := by
  have key : ∀ (d i : Nat), i + d = n → Ev (fun k => laws_heldIntS.l0 k (upL 1 n) (1 + (i : Int)) (i : Int)) (1 + (n : Int)) := by
    intro d
    induction d with
    | zero =>
      intro i hi
      refine Ev.s ?_
      have c : ¬ ((i : Int) < ((upL 1 n).length : Int)) := by rw [upL_len]; omega
      simp only [laws_heldIntS.l0, if_neg c]
      rw [show i = n from by omega]
      exact Ev.now _
    | succ d ih =>
      intro i hi
      refine Ev.s ?_
      have c1 : ((i : Int) < ((upL 1 n).length : Int)) := by rw [upL_len]; omega
      have c2 : (0 : Int) ≤ (i : Int) := by omega
      have c3 := upL_rd n i 1 (by omega)
      have e := wsucc i n (by omega) (by omega)
      have e2 : wrap64 (1 + (i : Int) + 1) = 1 + ((i + 1 : Nat) : Int) := by rw [w64 (by omega) (by omega)]; omega
      simp only [laws_heldIntS.l0, if_pos c1, if_pos c2, c3, if_true, e, e2]
      exact ih (i + 1) (by omega)
  have := key n 0 (by omega)
  exact this

theorem rdL_app (done : List (List Int)) (r : List Int) (t : List (List Int)) : rd_L1 (done ++ r :: t) (done.length : Int) = r := by
  unfold rd_L1
  rw [Int.toNat_natCast, List.getD_eq_getElem?_getD, List.getElem?_append_right (Nat.le_refl _), Nat.sub_self]
  rfl
theorem Ev.both {α β : Type} {g : Nat → Option α} {h : Nat → Option β} {a : α} {b : β} (x : Ev g a) (y : Ev h b) : ∃ K, ∀ k, K ≤ k → g k = some a ∧ h k = some b := by
  obtain ⟨K, hK⟩ := x
  obtain ⟨L, hL⟩ := y
  exact ⟨max K L, fun k hk => ⟨hK k (by omega), hL k (by omega)⟩⟩

theorem F.tl_len0 : ∀ f : F, f.tl.length = 0 → f = .nil
  | .nil, _ => rfl
  | .node a b, h => by simp only [F.tl, List.length_cons] at h; omega
theorem F.cnt_tl : ∀ f : F, 0 ≤ f.cnt ∧ f.cnt ≤ (f.tl.length : Int)
  | .nil => by simp [F.cnt, F.tl]
  | .node a b => by
    have := F.cnt_tl b
    simp only [F.cnt, F.tl, List.length_cons, List.length_append]
    omega
/-- One step of the reference's loop. -/
theorem cyTrees_step (l : List Int) (hl : l.length ≤ 16) (out : List (List Int)) (tree : List Int) (i : Nat) (o d : Int) (rest : List Int) (R : List (List Int)) (hd : l.drop i = d :: rest) (ho : out.length ≤ 1000) (ht : tree.length ≤ 1000) (hb : 0 ≤ d ∧ d ≤ 16) (hob : 0 ≤ o ∧ o ≤ 1000)
    (h : Ev (fun k => if o + (d - 1) = 0 then spec_cyTrees.l0 k (out ++ [tree ++ [d]]) [] 1 l (l.length : Int) ((i + 1 : Nat) : Int) else spec_cyTrees.l0 k out (tree ++ [d]) (o + (d - 1)) l (l.length : Int) ((i + 1 : Nat) : Int)) R) :
    Ev (fun k => spec_cyTrees.l0 k out tree o l (l.length : Int) (i : Int)) R := by
  have hi : i < l.length := by
    by_cases c : i < l.length
    · exact c
    · rw [List.drop_of_length_le (by omega)] at hd; cases hd
  have hr : rd l (i : Int) = d := by
    rw [drop_rd l i hi] at hd
    injection hd
  refine Ev.s ?_
  have c1 : ((i : Int) < (l.length : Int)) := by omega
  have c2 : (0 : Int) ≤ (i : Int) := by omega
  have c3 : tree.length < 17592186044416 := by omega
  have c4 : out.length < 5864062014805 := by omega
  have w1 : wrap64 (d - 1) = d - 1 := w64 (by omega) (by omega)
  have w2 : wrap64 (o + (d - 1)) = o + (d - 1) := w64 (by omega) (by omega)
  have w3 := wsucc i 16 (by omega) (by omega)
  simp only [spec_cyTrees.l0, if_pos c1, if_pos c2, if_pos c3, Option.bind_some, hr, w1, w2, w3, if_pos c4]
  exact h
theorem cyTrees_in (l : List Int) (hl : l.length ≤ 16) (hx : ∀ x ∈ l, 0 ≤ x ∧ x ≤ 16) (out : List (List Int)) (ho : out.length ≤ 1000) : ∀ (f : F) (i : Nat) (tree : List Int) (o : Int) (rest : List Int) (R : List (List Int)), l.drop i = f.tl ++ rest → 1 ≤ o → o + f.cnt + 16 * (f.tl.length : Int) ≤ 1000 → tree.length + f.tl.length ≤ 1000 →
    Ev (fun k => spec_cyTrees.l0 k out (tree ++ f.tl) o l (l.length : Int) ((i + f.tl.length : Nat) : Int)) R → Ev (fun k => spec_cyTrees.l0 k out tree (o + f.cnt) l (l.length : Int) (i : Int)) R := by
  intro f
  induction f with
  | nil =>
    intro i tree o rest R _ _ _ _ h
    simp only [F.tl, List.append_nil, List.length_nil, Nat.add_zero] at h
    simp only [F.cnt, Int.add_zero]
    exact h
  | node a b iha ihb =>
    intro i tree o rest R hd h1 h2 h3 h
    have ca := F.cnt_tl a
    have cb := F.cnt_tl b
    have hlen : (F.node a b).tl.length = a.tl.length + b.tl.length + 1 := by simp only [F.tl, List.length_cons, List.length_append]
    have hd' : l.drop i = a.cnt :: (a.tl ++ (b.tl ++ rest)) := by rw [hd]; simp only [F.tl, List.cons_append, List.append_assoc]
    have hd2 : l.drop (i + 1) = a.tl ++ (b.tl ++ rest) := by rw [← List.drop_drop, hd', List.drop_succ_cons, List.drop_zero]
    have hd3 : l.drop (i + 1 + a.tl.length) = b.tl ++ rest := by rw [← List.drop_drop, hd2, List.drop_left]
    have ha : 0 ≤ a.cnt ∧ a.cnt ≤ 16 := hx a.cnt (List.mem_of_mem_drop (i := i) (by rw [hd']; exact List.mem_cons_self ..))
    simp only [F.cnt] at h2 ⊢
    refine cyTrees_step l hl out tree i _ a.cnt _ R hd' ho (by omega) ha (by omega) ?_
    have c : ¬ (o + (1 + b.cnt) + (a.cnt - 1) = 0) := by omega
    simp only [if_neg c]
    rw [show o + (1 + b.cnt) + (a.cnt - 1) = (o + b.cnt) + a.cnt from by omega]
    refine iha (i + 1) (tree ++ [a.cnt]) (o + b.cnt) _ R hd2 (by omega) (by omega) (by rw [List.length_append, List.length_singleton]; omega) ?_
    refine ihb (i + 1 + a.tl.length) ((tree ++ [a.cnt]) ++ a.tl) o rest R hd3 h1 (by omega) (by rw [List.length_append, List.length_append, List.length_singleton]; omega) ?_
    rw [show i + 1 + a.tl.length + b.tl.length = i + (F.node a b).tl.length from by omega]
    rw [show ((tree ++ [a.cnt]) ++ a.tl) ++ b.tl = tree ++ (F.node a b).tl from by simp only [F.tl, List.append_assoc, List.cons_append, List.nil_append]]
    exact h
theorem cyTrees_to (l : List Int) (hl : l.length ≤ 16) (hx : ∀ x ∈ l, 0 ≤ x ∧ x ≤ 16) (out : List (List Int)) (ho : out.length ≤ 1000) : ∀ (f : F) (i : Nat) (tree : List Int) (rest : List Int) (R : List (List Int)), f ≠ .nil → l.drop i = f.tl ++ rest → f.cnt + 16 * (f.tl.length : Int) ≤ 1000 → tree.length + f.tl.length ≤ 1000 →
    Ev (fun k => spec_cyTrees.l0 k (out ++ [tree ++ f.tl]) [] 1 l (l.length : Int) ((i + f.tl.length : Nat) : Int)) R → Ev (fun k => spec_cyTrees.l0 k out tree f.cnt l (l.length : Int) (i : Int)) R := by
  intro f
  induction f with
  | nil => intro _ _ _ _ h; exact absurd rfl h
  | node a b iha ihb =>
    intro i tree rest R _ hd h2 h3 h
    have ca := F.cnt_tl a
    have cb := F.cnt_tl b
    have hlen : (F.node a b).tl.length = a.tl.length + b.tl.length + 1 := by simp only [F.tl, List.length_cons, List.length_append]
    have hd' : l.drop i = a.cnt :: (a.tl ++ (b.tl ++ rest)) := by rw [hd]; simp only [F.tl, List.cons_append, List.append_assoc]
    have hd2 : l.drop (i + 1) = a.tl ++ (b.tl ++ rest) := by rw [← List.drop_drop, hd', List.drop_succ_cons, List.drop_zero]
    have hd3 : l.drop (i + 1 + a.tl.length) = b.tl ++ rest := by rw [← List.drop_drop, hd2, List.drop_left]
    have ha : 0 ≤ a.cnt ∧ a.cnt ≤ 16 := hx a.cnt (List.mem_of_mem_drop (i := i) (by rw [hd']; exact List.mem_cons_self ..))
    have happ : ((tree ++ [a.cnt]) ++ a.tl) ++ b.tl = tree ++ (F.node a b).tl := by simp only [F.tl, List.append_assoc, List.cons_append, List.nil_append]
    simp only [F.cnt] at h2 ⊢
    refine cyTrees_step l hl out tree i _ a.cnt _ R hd' ho (by omega) ha (by omega) ?_
    rw [show 1 + b.cnt + (a.cnt - 1) = b.cnt + a.cnt from by omega]
    by_cases hbn : b = .nil
    · subst hbn
      simp only [F.cnt, Int.zero_add]
      by_cases han : a = .nil
      · subst han
        simp only [F.cnt, if_true]
        simp only [F.tl, F.cnt, List.append_nil, List.length_cons, List.length_nil, Nat.zero_add] at h
        exact h
      · have c : ¬ (a.cnt = 0) := fun e => han (F.cnt0 a e)
        simp only [if_neg c]
        refine iha (i + 1) (tree ++ [a.cnt]) _ R han hd2 (by omega) (by rw [List.length_append, List.length_singleton]; omega) ?_
        rw [← happ, hlen] at h
        simp only [F.tl, List.append_nil, List.length_nil, Nat.add_zero] at h
        rw [show i + 1 + a.tl.length = i + (a.tl.length + 1) from by omega]
        exact h
    · have hb1 : ¬ (b.cnt = 0) := fun e => hbn (F.cnt0 b e)
      have c : ¬ (b.cnt + a.cnt = 0) := by omega
      simp only [if_neg c]
      refine cyTrees_in l hl hx out ho a (i + 1) (tree ++ [a.cnt]) b.cnt _ R hd2 (by omega) (by omega) (by rw [List.length_append, List.length_singleton]; omega) ?_
      refine ihb (i + 1 + a.tl.length) ((tree ++ [a.cnt]) ++ a.tl) rest R hbn hd3 (by omega) (by rw [List.length_append, List.length_append, List.length_singleton]; omega) ?_
      rw [show i + 1 + a.tl.length + b.tl.length = i + (F.node a b).tl.length from by omega, happ]
      exact h
theorem cyTrees_l0 (l : List Int) (hl : l.length ≤ 16) (hx : ∀ x ∈ l, 0 ≤ x ∧ x ≤ 16) : ∀ (f : F) (i : Nat) (out : List (List Int)), i ≤ l.length → l.drop i = f.tl → out.length + f.tl.length ≤ 1000 →
    Ev (fun k => spec_cyTrees.l0 k out [] 1 l (l.length : Int) (i : Int)) (out ++ F.trs f) := by
  intro f
  induction f with
  | nil =>
    intro i out hi hd _
    have : l.length - i = 0 := by
      have := congrArg List.length hd
      rwa [List.length_drop] at this
    refine Ev.s ?_
    have c : ¬ ((i : Int) < (l.length : Int)) := by omega
    simp only [spec_cyTrees.l0, if_neg c, F.trs, List.append_nil]
    exact Ev.now _
  | node a b iha ihb =>
    intro i out hi hd ho
    have ca := F.cnt_tl a
    have hlen : (F.node a b).tl.length = a.tl.length + b.tl.length + 1 := by simp only [F.tl, List.length_cons, List.length_append]
    have hdl : l.length - i = (F.node a b).tl.length := by rw [← hd, List.length_drop]
    have h1 : (F.node a .nil).tl = a.cnt :: a.tl := by simp only [F.tl, List.append_nil]
    have hd' : l.drop i = (F.node a .nil).tl ++ b.tl := by rw [hd]; simp only [F.tl, List.append_nil, List.cons_append]
    have hl1 : (F.node a .nil).tl.length = a.tl.length + 1 := by rw [h1, List.length_cons]
    have hd2 : l.drop (i + (F.node a .nil).tl.length) = b.tl := by rw [← List.drop_drop, hd', List.drop_left]
    have := cyTrees_to l hl hx out (by omega) (.node a .nil) i [] b.tl (out ++ F.trs (.node a b)) (by intro e; cases e) hd' (by simp only [F.cnt]; omega) (by rw [hl1, List.length_nil]; omega) (by
      have ih := ihb (i + (F.node a .nil).tl.length) (out ++ [a.cnt :: a.tl]) (by omega) hd2 (by rw [List.length_append, List.length_singleton]; omega)
      rw [List.nil_append, h1]
      rw [h1] at ih
      refine Ev.e ih ?_
      rw [List.append_assoc]
      rfl)
    exact this
theorem cyTrees_ev (f : F) (hl : f.tl.length ≤ 16) (hx : ∀ x ∈ f.tl, 0 ≤ x ∧ x ≤ 16) : Ev (fun k => spec_cyTrees.f k f.tl) (F.trs f) :=
  cyTrees_l0 f.tl hl hx f 0 [] (Nat.zero_le _) (by rw [List.drop_zero]) (by rw [List.length_nil]; omega)

/-- A forest's degrees, all in the other order. -/
def F.mir : F → List Int
  | .nil => []
  | .node a b => F.mir b ++ a.cnt :: F.mir a
theorem mir_len : ∀ f : F, (F.mir f).length = f.tl.length
  | .nil => rfl
  | .node a b => by
    have := mir_len a
    have := mir_len b
    simp only [F.mir, F.tl, List.length_cons, List.length_append]
    omega
theorem F.tl_parts {a b : F} (hl : (F.node a b).tl.length ≤ 16) (hx : ∀ x ∈ (F.node a b).tl, 0 ≤ x ∧ x ≤ 16) : a.tl.length + b.tl.length + 1 ≤ 16 ∧ (∀ x ∈ a.tl, 0 ≤ x ∧ x ≤ 16) ∧ (∀ x ∈ b.tl, 0 ≤ x ∧ x ≤ 16) := by
  refine ⟨?_, fun x h => hx x ?_, fun x h => hx x ?_⟩
  · simp only [F.tl, List.length_cons, List.length_append] at hl; omega
  · simp only [F.tl]; exact List.mem_cons_of_mem _ (List.mem_append_left _ h)
  · simp only [F.tl]; exact List.mem_cons_of_mem _ (List.mem_append_right _ h)
/-- The program's. -/
def MirOk (f : F) : Prop := f.tl.length ≤ 16 → (∀ x ∈ f.tl, 0 ≤ x ∧ x ≤ 16) → Ev (fun k => mirL (impl_mirrored.f k) (F.trs f)) (F.mir f)
theorem mirrored_of (f : F) (h : MirOk f) (hl : f.tl.length ≤ 16) (hx : ∀ x ∈ f.tl, 0 ≤ x ∧ x ≤ 16) : Ev (fun k => impl_mirrored.f k f.tl) (F.mir f) := by
  have ht := trs_len f
  refine Ev.s ?_
  simp only [impl_mirrored.f]
  refine Ev.bs (treesIn_ev f hl hx) ?_
  have c : (F.trs f).length < 1000000 := by omega
  simp only [if_pos c]
  exact h hl hx
theorem mirOk : ∀ f : F, MirOk f := by
  intro f
  induction f with
  | nil => intro _ _; exact Ev.now _
  | node a b iha ihb =>
    intro hl hx
    obtain ⟨h1, h2, h3⟩ := F.tl_parts hl hx
    have la := mir_len a
    have lb := mir_len b
    simp only [F.trs, mirL]
    refine Ev.bs (ihb (by omega) h3) (Ev.bs (mirrored_of a iha (by omega) h2) ?_)
    have c : (F.mir b ++ (a.cnt :: F.mir a)).length < 1000000 := by rw [List.length_append, List.length_cons]; omega
    simp only [if_pos c]
    exact Ev.now _
/-- The reference's. -/
def CyMirOk (f : F) : Prop := ∀ (A : List (List Int)) (out : List Int) (R : List Int), f.tl.length ≤ 16 → (∀ x ∈ f.tl, 0 ≤ x ∧ x ≤ 16) → A.length + f.tl.length ≤ 1000 → out.length + f.tl.length ≤ 1000 →
  Ev (fun k => spec_cyMirror.l0 k (out ++ F.mir f) (A ++ F.trs f) ((A.length : Int) - 1)) R → Ev (fun k => spec_cyMirror.l0 k out (A ++ F.trs f) (((A.length + (F.trs f).length : Nat) : Int) - 1)) R
theorem cyMirror_of (f : F) (h : CyMirOk f) (hl : f.tl.length ≤ 16) (hx : ∀ x ∈ f.tl, 0 ≤ x ∧ x ≤ 16) : Ev (fun k => spec_cyMirror.f k f.tl) (F.mir f) := by
  have ht := trs_len f
  refine Ev.s ?_
  simp only [spec_cyMirror.f]
  refine Ev.bs (cyTrees_ev f hl hx) ?_
  rw [w64 (by omega) (by omega)]
  have := h [] [] (F.mir f) hl hx (by simp only [List.length_nil]; omega) (by simp only [List.length_nil]; omega) (by
    refine Ev.s ?_
    simp only [List.nil_append, List.length_nil]
    have c : ¬ ((((0 : Nat) : Int) - 1) ≥ 0) := by omega
    simp only [spec_cyMirror.l0, if_neg c]
    exact Ev.now _)
  rw [List.nil_append, List.length_nil, Nat.zero_add] at this
  exact this
theorem cyMirOk : ∀ f : F, CyMirOk f := by
  intro f
  induction f with
  | nil =>
    intro A out R _ _ _ _ h
    simp only [F.mir, F.trs, List.append_nil, List.length_nil, Nat.add_zero] at h ⊢
    exact h
  | node a b iha ihb =>
    intro A out R hl hx hA ho h
    obtain ⟨h1, h2, h3⟩ := F.tl_parts hl hx
    have hlen : (F.node a b).tl.length = a.tl.length + b.tl.length + 1 := by simp only [F.tl, List.length_cons, List.length_append]
    have la := mir_len a
    have lb := mir_len b
    have lt := trs_len b
    have e : A ++ F.trs (F.node a b) = (A ++ [a.cnt :: a.tl]) ++ F.trs b := by simp only [F.trs, List.append_assoc, List.cons_append, List.nil_append]
    have e2 : A.length + (F.trs (F.node a b)).length = (A ++ [a.cnt :: a.tl]).length + (F.trs b).length := by simp only [F.trs, List.length_append, List.length_cons, List.length_nil]; omega
    rw [e] at h ⊢
    rw [e2]
    refine ihb (A ++ [a.cnt :: a.tl]) out R (by omega) h3 (by rw [List.length_append, List.length_singleton]; omega) (by omega) ?_
    have hrow : rd_L1 ((A ++ [a.cnt :: a.tl]) ++ F.trs b) (A.length : Int) = a.cnt :: a.tl := by rw [List.append_assoc]; exact rdL_app A _ _
    rw [show (((A ++ [a.cnt :: a.tl]).length : Int) - 1) = (A.length : Int) from by rw [List.length_append, List.length_singleton]; omega]
    refine Ev.s ?_
    have c1 : (A.length : Int) ≥ 0 := by omega
    have c3 : (A.length : Int) < (((A ++ [a.cnt :: a.tl]) ++ F.trs b).length : Int) := by rw [List.length_append, List.length_append, List.length_singleton]; omega
    have c4 : (0 : Int) < ((a.cnt :: a.tl).length : Int) := by rw [List.length_cons]; omega
    have c5 : (out ++ F.mir b).length < 17592186044416 := by rw [List.length_append]; omega
    have c6 : (1 : Int) ≤ ((a.cnt :: a.tl).length : Int) := by rw [List.length_cons]; omega
    have c7 : ((out ++ F.mir b) ++ [a.cnt]).length + (F.mir a).length < 17592186044416 := by rw [List.length_append, List.length_append, List.length_singleton]; omega
    have hr0 : rd (a.cnt :: a.tl) 0 = a.cnt := rfl
    simp only [spec_cyMirror.l0, if_pos c1, if_pos c3, hrow, if_pos c4, if_pos c5, hr0, Option.bind_some, if_pos c6, List.drop_succ_cons, List.drop_zero]
    refine Ev.bs (cyMirror_of a iha (by omega) h2) ?_
    simp only [if_pos c7]
    rw [w64 (by omega) (by omega)]
    rw [show out ++ F.mir (F.node a b) = ((out ++ F.mir b) ++ [a.cnt]) ++ F.mir a from by simp only [F.mir, List.append_assoc, List.cons_append, List.nil_append]] at h
    exact h
theorem FnExactMirrorForest : laws_FnExactMirrorForest.Pure := by
  intro l _ _ _ hbig
  have hn : l.length ≤ 35184372088832 := by omega
  have two : ∃ (rs : List Int) (b : Bool), rs.length ≤ 1000 ∧ Ev (fun k => spec_MirrorForest.f k l) (rs, b) ∧ Ev (fun k => impl_MirrorForest.f k l) (rs, b) := by
    by_cases hf : (DegB l && ForB l) = true
    · have hd : DegB l = true := (Bool.and_eq_true _ _ ▸ hf).1
      have hfo : ForB l = true := (Bool.and_eq_true _ _ ▸ hf).2
      obtain ⟨h16, hnum⟩ := DegB_iff hd
      obtain ⟨f, hlf⟩ := F.ofForest l hd hfo
      have ml := mir_len f
      rw [hlf] at h16 hnum
      refine ⟨F.mir f, true, by omega, ?_, ?_⟩
      · unfold spec_MirrorForest.f
        refine Ev.bs (cyIs_ev l hn) ?_
        simp only [hf, if_true]
        rw [hlf]
        exact Ev.bs (cyMirror_of f (cyMirOk f) (by omega) hnum) (Ev.now _)
      · unfold impl_MirrorForest.f
        refine Ev.bs (areForest_ev l hn) ?_
        simp only [hf, if_true]
        rw [hlf]
        exact Ev.bs (mirrored_of f (mirOk f) (by omega) hnum) (Ev.now _)
    · refine ⟨[], false, by simp, ?_, ?_⟩
      · unfold spec_MirrorForest.f
        refine Ev.bs (cyIs_ev l hn) ?_
        simp only [if_neg hf]
        exact Ev.now _
      · unfold impl_MirrorForest.f
        refine Ev.bs (areForest_ev l hn) ?_
        simp only [if_neg hf]
        exact Ev.now _
  obtain ⟨rs, b, t1, e1, e2⟩ := two
  obtain ⟨K1, h1⟩ := Ev.both (toIntS_ev l hn) e1
  obtain ⟨K2, h2⟩ := Ev.both e2 (eqIntS_ev rs rs (by omega))
  obtain ⟨K3, h3⟩ := Ev.both (eqIntS_ev l l hn) (markIntS_ev l (by omega))
  obtain ⟨K4, h4⟩ := Ev.both (markIntS_ev rs (by omega)) (heldIntS_ev rs.length (by omega))
  refine ⟨max (max K1 K2) (max K3 K4), rs, upL 1 rs.length, b, upL 1 l.length, 1 + (l.length : Int), 1 + (rs.length : Int), (h1 _ (by omega)).1, (h1 _ (by omega)).2, (h2 _ (by omega)).1, ?_, ?_, (h3 _ (by omega)).2, by omega, (h4 _ (by omega)).1, (h4 _ (by omega)).2, by omega, upL_len _ _⟩
  · have := (h2 (max (max K1 K2) (max K3 K4)) (by omega)).2
    simpa using this
  · have := (h3 (max (max K1 K2) (max K3 K4)) (by omega)).1
    simpa using this

end Go.Proofs.Ytlogghfgfokijaa.Pure
