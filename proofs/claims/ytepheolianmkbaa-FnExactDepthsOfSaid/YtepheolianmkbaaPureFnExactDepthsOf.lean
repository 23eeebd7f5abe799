/- The plain law of the statement FnExactDepthsOf: what the program's function computes is what the reference's computes, for all arguments; no condition. -/
import Derived.Test.YtepheolianmkbaaPFnExactDepthsOfx5
namespace Go.Proofs.Ytepheolianmkbaa.Pure
open Go.RowKit Go.Proofs.Ytepheolianmkbaa.PFnExactDepthsOf Go.Proofs.YtepheolianmkbaaW.PrintWords Go.Proofs.YtepheolianmkbaaW.PrintLast Go.Proofs.YtepheolianmkbaaW.PrintMore

theorem Ev.s {α : Type} {g : Nat → Option α} {r : α} (h : Ev (fun k => g (k + 1)) r) : Ev g r := by
  obtain ⟨K, hK⟩ := h
  refine ⟨K + 1, fun k hk => ?_⟩
  obtain ⟨m, rfl⟩ : ∃ m, k = m + 1 := ⟨k - 1, by omega⟩
  exact hK m (by omega)
theorem Ev.c {α : Type} {o : Option α} {r : α} (h : o = some r) : Ev (fun _ => o) r := ⟨0, fun _ _ => h⟩
theorem Ev.u {α : Type} {g : Nat → Option α} {r r' : α} (h : Ev g r) (h' : Ev g r') : r = r' := by
  obtain ⟨K, hK⟩ := h
  obtain ⟨K', hK'⟩ := h'
  have a := hK (max K K') (by omega)
  have b := hK' (max K K') (by omega)
  rw [a] at b
  exact Option.some.inj b
theorem Ev.e {α : Type} {g : Nat → Option α} {r r' : α} (h : Ev g r) (e : r = r') : Ev g r' := e ▸ h
theorem Ev.bs {α β : Type} {g : Nat → Option α} {f : Nat → α → Option β} {a : α} {r : β} (h : Ev g a) (k : Ev (fun n => f n a) r) : Ev (fun n => Option.bind (g n) (f n)) r := Ev.bind h k
theorem w64 {n : Int} (h : -9223372036854775808 ≤ n) (h' : n ≤ 9223372036854775807) : wrap64 n = n := by unfold wrap64; omega
theorem rd_set (l : List Int) (i j : Int) (v : Int) (hi : 0 ≤ i) (hj : 0 ≤ j) (hl : i < (l.length : Int)) : rd (l.set i.toNat v) j = if i = j then v else rd l j := by
  unfold rd
  rw [List.getD_eq_getElem?_getD, List.getD_eq_getElem?_getD, List.getElem?_set]
  by_cases e : i = j
  · subst e; rw [if_pos rfl, if_pos rfl, if_pos (by omega)]; rfl
  · rw [if_neg (by omega), if_neg e]

theorem in_eq (a b c : Int) : impl_in.f a b c = some (decide (b ≤ a ∧ a ≤ c)) := by
  unfold impl_in.f
  by_cases h : b ≤ a
  · rw [if_pos h]; simp [h]
  · rw [if_neg h]; simp [h]
theorem l1In_eq (a b c : Int) : spec_l1In.f a b c = some (decide (b ≤ a ∧ a ≤ c)) := by
  unfold spec_l1In.f
  by_cases h : a ≥ b
  · rw [if_pos h]; simp [h]
  · rw [if_neg h]; simp [h]

theorem drop_rd (l : List Int) (i : Nat) (h : i < l.length) : l.drop i = rd l (i : Int) :: l.drop (i + 1) := by
  rw [List.drop_eq_getElem_cons h]
  unfold rd
  rw [Int.toNat_natCast, List.getD_eq_getElem?_getD, List.getElem?_eq_getElem h]
  rfl
theorem rd_get (l : List Int) (i : Nat) (h : i < l.length) : rd l (i : Int) = l[i] := by
  unfold rd
  rw [Int.toNat_natCast, List.getD_eq_getElem?_getD, List.getElem?_eq_getElem h]
  rfl
theorem wsucc (i n : Nat) (h : i < n) (hn : n ≤ 9223372036854775807) : wrap64 ((i : Int) + 1) = ((i + 1 : Nat) : Int) := by
  rw [w64 (by omega) (by omega)]; omega
theorem rd_cons_succ (x : Int) (l : List Int) (i : Nat) : rd (x :: l) ((i + 1 : Nat) : Int) = rd l (i : Int) := by
  unfold rd
  simp only [Int.toNat_natCast, List.getD_cons_succ]
theorem rd_cons_zero (x : Int) (l : List Int) : rd (x :: l) 0 = x := rfl

theorem rd_take (l : List Int) (n i : Nat) (h : i < n) : rd (l.take n) (i : Int) = rd l (i : Int) := by
  unfold rd
  rw [Int.toNat_natCast, List.getD_eq_getElem?_getD, List.getD_eq_getElem?_getD, List.getElem?_take_of_lt h]

theorem toIntS_l0 (l : List Int) (hn : l.length ≤ 35184372088832) (d : Nat) : ∀ (i : Nat) (m : List Int), i + d = l.length → m.length = l.length → m.take i = l.take i →
    Ev (fun k => laws_toIntS.l0 k l m (i : Int)) l := by
  induction d with
  | zero =>
    intro i m hi hm ht
    refine Ev.s ?_
    have c : ¬ ((i : Int) < (l.length : Int)) := by omega
    simp only [laws_toIntS.l0, if_neg c]
    rw [List.take_of_length_le (by omega), List.take_of_length_le (by omega)] at ht
    rw [ht]; exact Ev.now _
  | succ d ih =>
    intro i m hi hm ht
    refine Ev.s ?_
    have c1 : ((i : Int) < (l.length : Int)) := by omega
    have c2 : (0 : Int) ≤ (i : Int) := by omega
    have c3 : ((i : Int) < (m.length : Int)) := by omega
    have e := wsucc i l.length (by omega) (by omega)
    simp only [laws_toIntS.l0, if_pos c1, if_pos c2, if_pos c3, e, Int.toNat_natCast]
    refine ih (i + 1) _ (by omega) (by simpa using hm) ?_
    rw [rd_get l i (by omega)]
    rw [List.take_succ_eq_append_getElem (by simp; omega), List.take_set_of_le (by omega), ht, List.take_succ_eq_append_getElem (by omega)]
    simp
theorem toIntS_ev (l : List Int) (hn : l.length ≤ 35184372088832) : Ev (fun k => laws_toIntS.f k l) l := by
  unfold laws_toIntS.f
  have c1 : (0 : Int) ≤ (l.length : Int) := by omega
  have c2 : ((l.length : Int) : Int).toNat ≤ 35184372088832 := by omega
  simp only [if_pos c1, if_pos c2]
  exact toIntS_l0 l hn l.length 0 _ (by omega) (by simp) (by simp)

theorem eqIntS_l0 (l m : List Int) (hl : l.length = m.length) (hn : l.length ≤ 35184372088832) (d : Nat) : ∀ (i : Nat), i + d = l.length →
    Ev (fun k => laws_eqIntS.l0 k l m (i : Int)) (decide (l.drop i = m.drop i)) := by
  induction d with
  | zero =>
    intro i hi
    refine Ev.s ?_
    have c : ¬ ((i : Int) < (l.length : Int)) := by omega
    simp only [laws_eqIntS.l0, if_neg c]
    rw [List.drop_of_length_le (by omega), List.drop_of_length_le (by omega)]
    exact Ev.now _
  | succ d ih =>
    intro i hi
    refine Ev.s ?_
    have c1 : ((i : Int) < (l.length : Int)) := by omega
    have c2 : (0 : Int) ≤ (i : Int) := by omega
    have c3 : ((i : Int) < (m.length : Int)) := by omega
    have e := wsucc i l.length (by omega) (by omega)
    simp only [laws_eqIntS.l0, if_pos c1, if_pos c2, if_pos c3, e]
    rw [drop_rd l i (by omega), drop_rd m i (by omega)]
    by_cases h : rd l (i : Int) = rd m (i : Int)
    · simp only [if_pos h]
      refine Ev.e (ih (i + 1) (by omega)) ?_
      simp [h]
    · simp only [if_neg h]
      have : (decide (rd l (i : Int) :: l.drop (i + 1) = rd m (i : Int) :: m.drop (i + 1))) = false := by
        apply decide_eq_false; intro h'; exact h (List.cons.inj h').1
      rw [this]; exact Ev.now _
theorem eqIntS_ev (l m : List Int) (hn : l.length ≤ 35184372088832) : Ev (fun k => laws_eqIntS.f k l m) (decide (l = m)) := by
  unfold laws_eqIntS.f
  by_cases h : l.length = m.length
  · have c : ((l.length : Int) = (m.length : Int)) := by omega
    simp only [if_pos c]
    exact eqIntS_l0 l m h hn l.length 0 (by omega)
  · have c : ¬ ((l.length : Int) = (m.length : Int)) := by omega
    simp only [if_neg c]
    have : decide (l = m) = false := by apply decide_eq_false; intro e; rw [e] at h; exact h rfl
    rw [this]; exact Ev.now _

/-- Are these degrees? -/
def DegB (l : List Int) : Bool := decide (1 ≤ l.length ∧ l.length ≤ 16) && l.all (fun x => decide (0 ≤ x ∧ x ≤ 16))
theorem l1All_l0 (lo hi : Int) (l : List Int) (hn : l.length ≤ 35184372088832) (d : Nat) : ∀ (i : Nat), i + d = l.length →
    Ev (fun k => spec_l1All.l0 k lo hi l (l.length : Int) (i : Int)) ((l.drop i).all (fun x => decide (lo ≤ x ∧ x ≤ hi))) := by
  induction d with
  | zero =>
    intro i h
    refine Ev.s ?_
    have c : ¬ ((i : Int) < (l.length : Int)) := by omega
    simp only [spec_l1All.l0, if_neg c]
    rw [List.drop_of_length_le (by omega)]
    exact Ev.now _
  | succ d ih =>
    intro i h
    refine Ev.s ?_
    have c1 : ((i : Int) < (l.length : Int)) := by omega
    have c2 : (0 : Int) ≤ (i : Int) := by omega
    have e := wsucc i l.length (by omega) (by omega)
    rw [drop_rd l i (by omega)]
    simp only [spec_l1All.l0, if_pos c1, if_pos c2, e, l1In_eq, Option.bind_some, decide_eq_true_eq, List.all_cons]
    by_cases h' : lo ≤ rd l (i : Int) ∧ rd l (i : Int) ≤ hi
    · simp only [if_pos h', decide_eq_true h', Bool.true_and]
      exact ih (i + 1) (by omega)
    · simp only [if_neg h', decide_eq_false h', Bool.false_and]
      exact Ev.now _
theorem l1All_ev (lo hi : Int) (l : List Int) (hn : l.length ≤ 35184372088832) : Ev (fun k => spec_l1All.f k l lo hi) (l.all (fun x => decide (lo ≤ x ∧ x ≤ hi))) := by
  unfold spec_l1All.f
  exact l1All_l0 lo hi l hn l.length 0 (by omega)
theorem cyGood_ev (l : List Int) (hn : l.length ≤ 35184372088832) : Ev (fun k => spec_cyGood.f k l) (DegB l) := by
  unfold spec_cyGood.f DegB
  simp only [l1In_eq, Option.bind_some, decide_eq_true_eq]
  by_cases h : 1 ≤ l.length ∧ l.length ≤ 16
  · simp only [if_pos (show (1 : Int) ≤ (l.length : Int) ∧ (l.length : Int) ≤ 16 from by omega), decide_eq_true h, Bool.true_and]
    exact Ev.bs (l1All_ev 0 16 l hn) (Ev.now _)
  · simp only [if_neg (show ¬ ((1 : Int) ≤ (l.length : Int) ∧ (l.length : Int) ≤ 16) from by omega), decide_eq_false h, Bool.false_and]
    exact Ev.now _
theorem isDegrees1_eq (x : Int) : impl_IsDegrees_1.f x = some (!decide (0 ≤ x ∧ x ≤ 16)) := by
  unfold impl_IsDegrees_1.f; rw [in_eq]; rfl
theorem indexFunc_l0 (l : List Int) (hn : l.length ≤ 35184372088832) (d : Nat) : ∀ (i : Nat), i + d = l.length →
    ∃ r : Int, Ev (fun k => slices_IndexFunc_int_int.l0 k l (l.length : Int) (i : Int)) r ∧ decide (r ≥ 0) = !(l.drop i).all (fun x => decide (0 ≤ x ∧ x ≤ 16)) := by
  induction d with
  | zero =>
    intro i h
    refine ⟨-1, Ev.s ?_, by rw [List.drop_of_length_le (by omega)]; rfl⟩
    have c : ¬ ((i : Int) < (l.length : Int)) := by omega
    simp only [slices_IndexFunc_int_int.l0, if_neg c]
    exact Ev.now _
  | succ d ih =>
    intro i h
    have c1 : ((i : Int) < (l.length : Int)) := by omega
    have c2 : (0 : Int) ≤ (i : Int) := by omega
    have e := wsucc i l.length (by omega) (by omega)
    rw [drop_rd l i (by omega)]
    by_cases h' : 0 ≤ rd l (i : Int) ∧ rd l (i : Int) ≤ 16
    · obtain ⟨r, hr, hd⟩ := ih (i + 1) (by omega)
      refine ⟨r, Ev.s ?_, by simp only [List.all_cons, decide_eq_true h', Bool.true_and, hd]⟩
      simp only [slices_IndexFunc_int_int.l0, if_pos c1, if_pos c2, e, isDegrees1_eq, Option.bind_some, decide_eq_true h', Bool.not_true, Bool.false_eq_true, if_false]
      exact hr
    · refine ⟨i, Ev.s ?_, by simp only [List.all_cons, decide_eq_false h', Bool.false_and, Bool.not_false]; exact decide_eq_true (by omega)⟩
      simp only [slices_IndexFunc_int_int.l0, if_pos c1, if_pos c2, e, isDegrees1_eq, Option.bind_some, decide_eq_false h', Bool.not_false, if_true]
      exact Ev.now _
theorem isDegrees_ev (l : List Int) (hn : l.length ≤ 35184372088832) : Ev (fun k => impl_IsDegrees.f k l) (DegB l) := by
  unfold impl_IsDegrees.f DegB slices_ContainsFunc_int_int.f slices_IndexFunc_int_int.f
  simp only [in_eq, Option.bind_some, decide_eq_true_eq]
  by_cases h : 1 ≤ l.length ∧ l.length ≤ 16
  · simp only [if_pos (show (1 : Int) ≤ (l.length : Int) ∧ (l.length : Int) ≤ 16 from by omega), decide_eq_true h, Bool.true_and]
    obtain ⟨r, hr, hd⟩ := indexFunc_l0 l hn l.length 0 (by omega)
    rw [List.drop_zero] at hd
    refine Ev.bs (a := decide (r ≥ 0)) (Ev.bs hr (Ev.now _)) (Ev.c ?_)
    rw [hd]; simp
  · simp only [if_neg (show ¬ ((1 : Int) ≤ (l.length : Int) ∧ (l.length : Int) ≤ 16) from by omega), decide_eq_false h, Bool.false_and]
    exact Ev.now _

/-- The excess from a place on. -/
def sumL : List Int → Int
  | [] => 0
  | x :: r => x + sumL r
theorem sumL_append (l m : List Int) : sumL (l ++ m) = sumL l + sumL m := by
  induction l with
  | nil => simp [sumL]
  | cons x r ih => simp only [List.cons_append, sumL, ih]; omega
theorem DegB_iff {l : List Int} (h : DegB l = true) : (1 ≤ l.length ∧ l.length ≤ 16) ∧ ∀ x ∈ l, 0 ≤ x ∧ x ≤ 16 := by
  unfold DegB at h
  simp only [Bool.and_eq_true, decide_eq_true_eq, List.all_eq_true] at h
  exact ⟨h.1, h.2⟩
theorem sumL_bd (l : List Int) (h : ∀ x ∈ l, 0 ≤ x ∧ x ≤ 16) : 0 ≤ sumL l ∧ sumL l ≤ 16 * (l.length : Int) := by
  induction l with
  | nil => simp [sumL]
  | cons x r ih =>
    have := ih (fun y hy => h y (List.mem_cons_of_mem _ hy))
    have hx := h x List.mem_cons_self
    simp only [sumL, List.length_cons]; omega
theorem deg_drop {l : List Int} (h : DegB l = true) (i : Nat) : 0 ≤ sumL (l.drop i) ∧ sumL (l.drop i) ≤ 256 := by
  obtain ⟨h1, h2⟩ := DegB_iff h
  have := sumL_bd (l.drop i) (fun x hx => h2 x (List.mem_of_mem_drop hx))
  rw [List.length_drop] at this
  omega
theorem deg_rd {l : List Int} (h : DegB l = true) (i : Nat) (hi : i < l.length) : 0 ≤ rd l (i : Int) ∧ rd l (i : Int) ≤ 16 := by
  rw [rd_get l i hi]
  exact (DegB_iff h).2 _ (List.getElem_mem _)
/-- The excess of degrees. -/
def Exc (l : List Int) : Int := (l.length : Int) - sumL l
theorem cyExcess_ev (l : List Int) (h : DegB l = true) : Ev (fun k => spec_cyExcess.f k l) (Exc l) := by
  have hl := (DegB_iff h).1
  have key : ∀ (d i : Nat) (x : Int), i + d = l.length → -1000 ≤ x - sumL (l.drop i) ∧ x ≤ 1000 → Ev (fun k => spec_cyExcess.l0 k x l (l.length : Int) (i : Int)) (x - sumL (l.drop i)) := by
    intro d
    induction d with
    | zero =>
      intro i x hi hx
      refine Ev.s ?_
      have c : ¬ ((i : Int) < (l.length : Int)) := by omega
      simp only [spec_cyExcess.l0, if_neg c]
      rw [List.drop_of_length_le (by omega)]
      exact Ev.c (by simp [sumL])
    | succ d ih =>
      intro i x hi hx
      have hr := deg_rd h i (by omega)
      have h0 := deg_drop h (i + 1)
      rw [drop_rd l i (by omega), sumL] at hx ⊢
      refine Ev.s ?_
      have c1 : ((i : Int) < (l.length : Int)) := by omega
      have c2 : (0 : Int) ≤ (i : Int) := by omega
      have e := wsucc i l.length (by omega) (by omega)
      have e2 : wrap64 (x - rd l (i : Int)) = x - rd l (i : Int) := w64 (by omega) (by omega)
      simp only [spec_cyExcess.l0, if_pos c1, if_pos c2, e, e2]
      exact Ev.e (ih (i + 1) (x - rd l (i : Int)) (by omega) (by omega)) (by omega)
  unfold spec_cyExcess.f Exc
  have h0 := deg_drop h 0
  have := key l.length 0 (l.length : Int) (by omega) (by omega)
  rwa [List.drop_zero] at this
theorem excess_ev (l : List Int) (h : DegB l = true) : Ev (fun k => impl_excess.f k l) (Exc l) := by
  have hl := (DegB_iff h).1
  have key : ∀ (d i : Nat) (x : Int), i + d = l.length → -1000 ≤ x - sumL (l.drop i) ∧ x ≤ 1000 → Ev (fun k => impl_excess.l0 k x l (l.length : Int) (i : Int)) (x - sumL (l.drop i)) := by
    intro d
    induction d with
    | zero =>
      intro i x hi hx
      refine Ev.s ?_
      have c : ¬ ((i : Int) < (l.length : Int)) := by omega
      simp only [impl_excess.l0, if_neg c]
      rw [List.drop_of_length_le (by omega)]
      exact Ev.c (by simp [sumL])
    | succ d ih =>
      intro i x hi hx
      have hr := deg_rd h i (by omega)
      have h0 := deg_drop h (i + 1)
      rw [drop_rd l i (by omega), sumL] at hx ⊢
      refine Ev.s ?_
      have c1 : ((i : Int) < (l.length : Int)) := by omega
      have c2 : (0 : Int) ≤ (i : Int) := by omega
      have e := wsucc i l.length (by omega) (by omega)
      have e2 : wrap64 (x - rd l (i : Int)) = x - rd l (i : Int) := w64 (by omega) (by omega)
      simp only [impl_excess.l0, if_pos c1, if_pos c2, e, e2]
      exact Ev.e (ih (i + 1) (x - rd l (i : Int)) (by omega) (by omega)) (by omega)
  unfold impl_excess.f Exc
  have h0 := deg_drop h 0
  have := key l.length 0 (l.length : Int) (by omega) (by omega)
  rwa [List.drop_zero] at this

/-- No sum of the first ones is -r or less. -/
def forB (r : Int) : Int → List Int → Bool
  | _, [] => true
  | s, x :: t => if s + (x - 1) ≤ -r then false else forB r (s + (x - 1)) t
/-- Are degrees a forest? -/
def ForB (l : List Int) : Bool := decide (Exc l ≥ 1) && forB (Exc l) 0 (l.take (l.length - 1))
theorem exc_bd {l : List Int} (h : DegB l = true) : -1000 ≤ Exc l ∧ Exc l ≤ 16 := by
  have h1 := (DegB_iff h).1
  have h0 := deg_drop h 0
  rw [List.drop_zero] at h0
  unfold Exc
  omega
theorem fo_wrap (s x : Int) (i : Nat) (hi : i ≤ 16) (hs : -(i : Int) ≤ s ∧ s ≤ 16 * (i : Int)) (hx : 0 ≤ x ∧ x ≤ 16) : wrap64 (x - 1) = x - 1 ∧ wrap64 (s + (x - 1)) = s + (x - 1) :=
  ⟨w64 (by omega) (by omega), w64 (by omega) (by omega)⟩
theorem fo_inv (s x : Int) (i : Nat) (hs : -(i : Int) ≤ s ∧ s ≤ 16 * (i : Int)) (hx : 0 ≤ x ∧ x ≤ 16) : -((i + 1 : Nat) : Int) ≤ s + (x - 1) ∧ s + (x - 1) ≤ 16 * ((i + 1 : Nat) : Int) := by omega
theorem isForest_ev (l : List Int) (h : DegB l = true) : Ev (fun k => impl_isForest.f k l) (ForB l) := by
  have hl := (DegB_iff h).1
  have hr := exc_bd h
  unfold impl_isForest.f ForB
  refine Ev.bs (excess_ev l h) ?_
  have e1 : wrap64 ((l.length : Int) - 1) = ((l.length - 1 : Nat) : Int) := by rw [w64 (by omega) (by omega)]; omega
  have c1 : (0 : Int) ≤ ((l.length - 1 : Nat) : Int) := by omega
  have c2 : ((l.length - 1 : Nat) : Int) ≤ (l.length : Int) := by omega
  simp only [e1, if_pos c1, if_pos c2, Int.toNat_natCast]
  generalize hr' : Exc l = r at hr
  have hb : ∀ i : Nat, i < (l.take (l.length - 1)).length → 0 ≤ rd (l.take (l.length - 1)) (i : Int) ∧ rd (l.take (l.length - 1)) (i : Int) ≤ 16 := by
    intro i hi
    rw [List.length_take] at hi
    rw [rd_take _ _ _ (by omega)]
    exact deg_rd h i (by omega)
  have hn : (l.take (l.length - 1)).length ≤ 16 := by rw [List.length_take]; omega
  generalize l.take (l.length - 1) = m at hb hn
  clear hr' e1 c1 c2 hl h
  have key : ∀ (d i : Nat) (s : Int), i + d = m.length → -(i : Int) ≤ s ∧ s ≤ 16 * (i : Int) → Ev (fun k => impl_isForest.l0 k r s m (m.length : Int) (i : Int)) (decide (r ≥ 1) && forB r s (m.drop i)) := by
    intro d
    induction d with
    | zero =>
      intro i s hi hs
      refine Ev.s ?_
      have c : ¬ ((i : Int) < (m.length : Int)) := by omega
      simp only [impl_isForest.l0, if_neg c]
      rw [List.drop_of_length_le (by omega)]
      exact Ev.c (by simp [forB])
    | succ d ih =>
      intro i s hi hs
      refine Ev.s ?_
      have hx := hb i (by omega)
      have c1 : ((i : Int) < (m.length : Int)) := by omega
      have c2 : (0 : Int) ≤ (i : Int) := by omega
      have e := wsucc i m.length (by omega) (by omega)
      obtain ⟨w1, w2⟩ := fo_wrap s (rd m (i : Int)) i (by omega) hs hx
      have iv := fo_inv s (rd m (i : Int)) i hs hx
      have w3 : wrap64 (-r) = -r := w64 (by omega) (by omega)
      rw [drop_rd m i (by omega)]
      by_cases t : s + (rd m (i : Int) - 1) ≤ -r
      · simp only [impl_isForest.l0, if_pos c1, if_pos c2, w1, w2, w3, if_pos t, forB, Bool.and_false]
        exact Ev.now _
      · simp only [impl_isForest.l0, if_pos c1, if_pos c2, w1, w2, w3, if_neg t, forB, e]
        exact ih (i + 1) _ (by omega) iv
  have := key m.length 0 0 (by omega) (by omega)
  rwa [List.drop_zero] at this
theorem cyForest_ev (l : List Int) (h : DegB l = true) : Ev (fun k => spec_cyForest.f k l) (ForB l) := by
  have hl := (DegB_iff h).1
  have hr := exc_bd h
  unfold spec_cyForest.f ForB
  refine Ev.bs (cyExcess_ev l h) ?_
  generalize hr' : Exc l = r at hr
  by_cases r1 : r < 1
  · simp only [if_pos r1]
    rw [decide_eq_false (by omega), Bool.false_and]
    exact Ev.now _
  simp only [if_neg r1]
  rw [decide_eq_true (by omega), Bool.true_and]
  have key : ∀ (d i : Nat) (s : Int), i + d = l.length → -(i : Int) ≤ s ∧ s ≤ 16 * (i : Int) → Ev (fun k => spec_cyForest.l0 k l r s l (l.length : Int) (i : Int)) (forB r s ((l.take (l.length - 1)).drop i)) := by
    intro d
    induction d with
    | zero =>
      intro i s hi hs
      refine Ev.s ?_
      have c : ¬ ((i : Int) < (l.length : Int)) := by omega
      simp only [spec_cyForest.l0, if_neg c]
      rw [List.drop_of_length_le (by rw [List.length_take]; omega)]
      exact Ev.now _
    | succ d ih =>
      intro i s hi hs
      refine Ev.s ?_
      have hx := deg_rd h i (by omega)
      have c1 : ((i : Int) < (l.length : Int)) := by omega
      have c2 : (0 : Int) ≤ (i : Int) := by omega
      have e := wsucc i l.length (by omega) (by omega)
      obtain ⟨w1, w2⟩ := fo_wrap s (rd l (i : Int)) i (by omega) hs hx
      have iv := fo_inv s (rd l (i : Int)) i hs hx
      have w3 : wrap64 (-r) = -r := w64 (by omega) (by omega)
      have hi' := ih (i + 1) (s + (rd l (i : Int) - 1)) (by omega) iv
      by_cases last : i + 1 < l.length
      · have c4 : ((i + 1 : Nat) : Int) < (l.length : Int) := by omega
        rw [drop_rd (l.take (l.length - 1)) i (by rw [List.length_take]; omega), rd_take _ _ _ (by omega)]
        by_cases t : s + (rd l (i : Int) - 1) ≤ -r
        · simp only [spec_cyForest.l0, if_pos c1, if_pos c2, w1, w2, w3, if_pos t, e, if_pos c4, forB]
          exact Ev.now _
        · simp only [spec_cyForest.l0, if_pos c1, if_pos c2, w1, w2, w3, if_neg t, e, forB]
          exact hi'
      · have c4 : ¬ ((i + 1 : Nat) : Int) < (l.length : Int) := by omega
        rw [List.drop_of_length_le (by rw [List.length_take]; omega)]
        rw [List.drop_of_length_le (by rw [List.length_take]; omega)] at hi'
        by_cases t : s + (rd l (i : Int) - 1) ≤ -r
        · simp only [spec_cyForest.l0, if_pos c1, if_pos c2, w1, w2, w3, if_pos t, e, if_neg c4]
          exact hi'
        · simp only [spec_cyForest.l0, if_pos c1, if_pos c2, w1, w2, w3, if_neg t, e]
          exact hi'
  have := key l.length 0 0 (by omega) (by omega)
  rwa [List.drop_zero] at this

theorem rd_last (a : List Int) (x : Int) : rd (a ++ [x]) (a.length : Int) = x := by
  unfold rd
  rw [Int.toNat_natCast, List.getD_eq_getElem?_getD, List.getElem?_append_right (Nat.le_refl _), Nat.sub_self]
  rfl
theorem rd_app (a b : List Int) (i : Int) (h0 : 0 ≤ i) (h : i < (a.length : Int)) : rd (a ++ b) i = rd a i := by
  unfold rd
  rw [List.getD_eq_getElem?_getD, List.getD_eq_getElem?_getD, List.getElem?_append_left (by omega)]
theorem take_last (a : List Int) (x : Int) : (a ++ [x]).take a.length = a := by
  rw [List.take_append_of_le_length (Nat.le_refl _), List.take_length]
theorem set_last (a : List Int) (x y : Int) : (a ++ [x]).set a.length y = a ++ [y] := by
  rw [List.set_append_right _ _ (Nat.le_refl _), Nat.sub_self]
  rfl
theorem last_len (a : List Int) (x : Int) (h : a.length ≤ 1000) : wrap64 (((a ++ [x]).length : Int) - 1) = (a.length : Int) := by
  rw [List.length_append, List.length_singleton, w64 (by omega) (by omega)]; omega

/-- The used-up ones off the top. -/
def popZ (left : List Int) : List Int → List Int
  | [] => []
  | j :: r => if rd left j = 0 then popZ left r else j :: r
theorem popZ_sub (left : List Int) : ∀ (st : List Int) (x : Int), x ∈ popZ left st → x ∈ st
  | j :: r, x, h => by
    unfold popZ at h
    by_cases c : rd left j = 0
    · rw [if_pos c] at h; exact List.mem_cons_of_mem _ (popZ_sub left r x h)
    · rwa [if_neg c] at h
theorem popZ_len (left : List Int) : ∀ (st : List Int), (popZ left st).length ≤ st.length
  | [] => Nat.le_refl _
  | j :: r => by
    unfold popZ
    by_cases c : rd left j = 0
    · rw [if_pos c, List.length_cons]; exact Nat.le_succ_of_le (popZ_len left r)
    · rw [if_neg c]; exact Nat.le_refl _
theorem popZ_pw (left : List Int) : ∀ (st : List Int), st.Pairwise (fun a b => b < a) → (popZ left st).Pairwise (fun a b => b < a)
  | [], h => h
  | j :: r, h => by
    unfold popZ
    by_cases c : rd left j = 0
    · rw [if_pos c]; exact popZ_pw left r (List.pairwise_cons.1 h).2
    · rw [if_neg c]; exact h
theorem popZ_top (left : List Int) : ∀ (st r : List Int) (j : Int), popZ left st = j :: r → rd left j ≠ 0
  | a :: s, r, j, h => by
    unfold popZ at h
    by_cases c : rd left a = 0
    · rw [if_pos c] at h; exact popZ_top left s r j h
    · rw [if_neg c] at h
      injection h with h1 h2
      rwa [← h1]
theorem popZ_idem (left : List Int) : ∀ (st : List Int), popZ left (popZ left st) = popZ left st
  | [] => rfl
  | j :: r => by
    by_cases c : rd left j = 0
    · rw [show popZ left (j :: r) = popZ left r from if_pos c]; exact popZ_idem left r
    · rw [show popZ left (j :: r) = j :: r from if_neg c, show popZ left (j :: r) = j :: r from if_neg c]
/-- The parents, from a place on. -/
def PR : Nat → Int → List Int → List Int → List Int → List Int
  | 0, _, par, _, _ => par
  | d + 1, i, par, left, st => match popZ left st with
    | [] => PR d (i + 1) (par ++ [-1]) left [i]
    | j :: r => PR d (i + 1) (par ++ [j]) (left.set j.toNat (rd left j - 1)) (i :: j :: r)
theorem PR_nil (d : Nat) (i : Int) (par left st : List Int) (h : popZ left st = []) : PR (d + 1) i par left st = PR d (i + 1) (par ++ [-1]) left [i] := by
  show (match popZ left st with | [] => PR d (i + 1) (par ++ [-1]) left [i] | j :: r => PR d (i + 1) (par ++ [j]) (left.set j.toNat (rd left j - 1)) (i :: j :: r)) = _
  rw [h]
theorem PR_cons (d : Nat) (i j : Int) (par left st r : List Int) (h : popZ left st = j :: r) : PR (d + 1) i par left st = PR d (i + 1) (par ++ [j]) (left.set j.toNat (rd left j - 1)) (i :: j :: r) := by
  show (match popZ left st with | [] => PR d (i + 1) (par ++ [-1]) left [i] | j :: r => PR d (i + 1) (par ++ [j]) (left.set j.toNat (rd left j - 1)) (i :: j :: r)) = _
  rw [h]
/-- What holds of the stack and the counts at a place. -/
structure PInv (n i : Nat) (left st : List Int) : Prop where
  len : left.length = n
  small : n ≤ 16
  num : ∀ x ∈ left, 0 ≤ x ∧ x ≤ 16
  inn : ∀ x ∈ st, 0 ≤ x ∧ x < (i : Int)
  pw : st.Pairwise (fun a b => b < a)
  sl : st.length ≤ i
theorem PInv.rdn {n i : Nat} {left st : List Int} (h : PInv n i left st) (j : Nat) (hj : j < n) : 0 ≤ rd left (j : Int) ∧ rd left (j : Int) ≤ 16 := by
  rw [rd_get left j (by rw [h.len]; exact hj)]
  exact h.num _ (List.getElem_mem _)
theorem PInv.pop {n i : Nat} {left st : List Int} (h : PInv n i left st) : PInv n i left (popZ left st) :=
  ⟨h.len, h.small, h.num, fun x hx => h.inn x (popZ_sub left st x hx), popZ_pw left st h.pw, Nat.le_trans (popZ_len left st) h.sl⟩
theorem PInv.tail {n i : Nat} {left st : List Int} {j : Int} (h : PInv n i left (j :: st)) : PInv n i left st :=
  ⟨h.len, h.small, h.num, fun x hx => h.inn x (List.mem_cons_of_mem _ hx), (List.pairwise_cons.1 h.pw).2, by have := h.sl; rw [List.length_cons] at this; omega⟩
theorem PInv.one {n i : Nat} {left : List Int} (h : PInv n i left []) : PInv n (i + 1) left [(i : Int)] :=
  ⟨h.len, h.small, h.num, fun x hx => by rw [List.mem_singleton] at hx; omega, List.pairwise_singleton _ _, by rw [List.length_singleton]; omega⟩
theorem PInv.push {n i : Nat} {left st : List Int} {j : Int} (h : PInv n i left (j :: st)) (hi : i < n) (hz : rd left j ≠ 0) : PInv n (i + 1) (left.set j.toNat (rd left j - 1)) ((i : Int) :: j :: st) := by
  have hj := h.inn j (List.mem_cons_self ..)
  have hr := h.rdn j.toNat (by omega)
  rw [show ((j.toNat : Nat) : Int) = j from by omega] at hr
  refine ⟨by rw [List.length_set]; exact h.len, h.small, fun x hx => ?_, fun x hx => ?_, List.pairwise_cons.2 ⟨fun x hx => (h.inn x hx).2, h.pw⟩, ?_⟩
  · rcases List.mem_or_eq_of_mem_set hx with hx | rfl
    · exact h.num x hx
    · omega
  · rcases List.mem_cons.1 hx with rfl | hx
    · omega
    · have := h.inn x hx; omega
  · have := h.sl
    rw [List.length_cons] at this ⊢
    rw [List.length_cons]; omega
theorem implPush_nil (k n i : Nat) (par left : List Int) (hp : par.length = i) (hi : i < n) (hn : n ≤ 16) :
    impl_parents.l1 (k + 1) par left [] (i : Int) (n : Int) (i : Int) = impl_parents.l0 k (par ++ [-1]) left [(i : Int)] (n : Int) ((i + 1 : Nat) : Int) := by
  have c1 : ¬ ((([] : List Int).length : Int) > 0) := by rw [List.length_nil]; omega
  have c2 : ((([] : List Int).length : Int) = 0) := rfl
  have c3 : par.length < 17592186044416 := by omega
  have c4 : ([] : List Int).length < 17592186044416 := by rw [List.length_nil]; omega
  simp only [impl_parents.l1, if_neg c1, if_pos c2, if_pos c3, if_pos c4, List.nil_append, wsucc i n hi (by omega)]
theorem implPush (n i : Nat) (par left : List Int) (hp : par.length = i) (hi : i < n) (R : List Int)
    (ih : ∀ (par' left' st' : List Int), par'.length = i + 1 → PInv n (i + 1) left' st' → PR (n - (i + 1)) ((i + 1 : Nat) : Int) par' left' st' = R → Ev (fun k => impl_parents.l0 k par' left' st'.reverse (n : Int) ((i + 1 : Nat) : Int)) R) :
    ∀ (st : List Int), PInv n i left st → PR (n - (i + 1) + 1) (i : Int) par left st = R → Ev (fun k => impl_parents.l1 k par left st.reverse (i : Int) (n : Int) (i : Int)) R := by
  intro st
  induction st with
  | nil =>
    intro h hR
    refine Ev.s ?_
    simp only [List.reverse_nil, implPush_nil _ n i par left hp hi h.small]
    rw [PR_nil _ _ _ _ _ rfl, ← Int.natCast_succ] at hR
    exact ih _ _ [(i : Int)] (by rw [List.length_append, List.length_singleton, hp]) h.one hR
  | cons j r ihr =>
    intro h hR
    have hj := h.inn j (List.mem_cons_self ..)
    have hsl := h.sl
    have hsm := h.small
    have hlen := h.len
    rw [List.length_cons] at hsl
    have hr := h.rdn j.toNat (by omega)
    rw [show ((j.toNat : Nat) : Int) = j from by omega] at hr
    have c0 : (r.reverse ++ [j]).length = r.length + 1 := by simp
    have c1 : ((r.reverse ++ [j]).length : Int) > 0 := by rw [c0]; omega
    have c1' : ¬ (((r.reverse ++ [j]).length : Int) = 0) := by rw [c0]; omega
    have e1 := last_len r.reverse j (by rw [List.length_reverse]; omega)
    have c2 : (0 : Int) ≤ (r.reverse.length : Int) := by omega
    have c3 : (r.reverse.length : Int) < ((r.reverse ++ [j]).length : Int) := by rw [c0, List.length_reverse]; omega
    have c3' : (r.reverse.length : Int) ≤ ((r.reverse ++ [j]).length : Int) := by omega
    have e2 := rd_last r.reverse j
    have c4 : (0 : Int) ≤ j := hj.1
    have c5 : j < (left.length : Int) := by omega
    have c6 : par.length < 17592186044416 := by omega
    have c7 : (r.reverse ++ [j]).length < 17592186044416 := by omega
    have e3 := take_last r.reverse j
    refine Ev.s ?_
    rw [List.reverse_cons]
    by_cases z : rd left j = 0
    · simp only [impl_parents.l1, if_pos c1, e1, if_pos c2, if_pos c3, e2, if_pos c4, if_pos c5, if_pos z, if_pos c3', Int.toNat_natCast, e3]
      refine ihr h.tail ?_
      have hpz : popZ left (j :: r) = popZ left r := if_pos z
      rw [← hR]
      cases hc : popZ left r with
      | nil => rw [PR_nil _ _ _ _ _ hc, PR_nil _ _ _ _ _ (hpz.trans hc)]
      | cons a s => rw [PR_cons _ _ _ _ _ _ _ hc, PR_cons _ _ _ _ _ _ _ (hpz.trans hc)]
    · have w := w64 (n := rd left j - 1) (by omega) (by omega)
      have hpz : popZ left (j :: r) = j :: r := if_neg z
      simp only [impl_parents.l1, if_pos c1, e1, if_pos c2, if_pos c3, e2, if_pos c4, if_pos c5, if_neg z, if_neg c1', if_pos c6, if_pos c7, w, wsucc i n hi (by omega)]
      have := ih (par ++ [j]) (left.set j.toNat (rd left j - 1)) ((i : Int) :: j :: r) (by rw [List.length_append, List.length_singleton, hp]) (h.push hi z)
        (by rw [← hR, PR_cons _ _ _ _ _ _ _ hpz, Int.natCast_succ])
      rwa [List.reverse_cons, List.reverse_cons] at this
theorem implParents_l0 (n : Nat) (R : List Int) : ∀ (d i : Nat) (par left st : List Int), i + d = n → par.length = i → PInv n i left st → PR d (i : Int) par left st = R → Ev (fun k => impl_parents.l0 k par left st.reverse (n : Int) (i : Int)) R := by
  intro d
  induction d with
  | zero =>
    intro i par left st hi hp h hR
    refine Ev.s ?_
    have c : ¬ ((i : Int) < (n : Int)) := by omega
    simp only [impl_parents.l0, if_neg c]
    rw [← hR]
    exact Ev.now _
  | succ d ih =>
    intro i par left st hi hp h hR
    refine Ev.s ?_
    have c : ((i : Int) < (n : Int)) := by omega
    simp only [impl_parents.l0, if_pos c]
    have hd : n - (i + 1) = d := by omega
    refine implPush n i par left hp (by omega) R (fun par' left' st' hp' h' hR' => ih (i + 1) par' left' st' (by omega) hp' h' (by rw [← hd]; exact hR')) st h (by rw [hd]; exact hR)
/-- The parents of a list of degrees. -/
def PAR (l : List Int) : List Int := PR l.length 0 [] l []
theorem PInv_start {l : List Int} (h : DegB l = true) : PInv l.length 0 l [] :=
  ⟨rfl, (DegB_iff h).1.2, (DegB_iff h).2, fun _ hx => absurd hx List.not_mem_nil, List.Pairwise.nil, Nat.le_refl _⟩
theorem implParents_ev (l : List Int) (h : DegB l = true) : Ev (fun k => impl_parents.f k l) (PAR l) := by
  have hl := (DegB_iff h).1
  unfold impl_parents.f slices_Clone_int_int.f
  have c : l.length < 17592186044416 := by omega
  simp only [if_pos c, Option.bind_some]
  exact implParents_l0 l.length (PAR l) l.length 0 [] l [] (by omega) rfl (PInv_start h) rfl

theorem map_rd_set (left : List Int) (j v : Int) (hj : 0 ≤ j) (hl : j < (left.length : Int)) : ∀ (r : List Int), (∀ x ∈ r, 0 ≤ x ∧ x < j) → r.map (rd (left.set j.toNat v)) = r.map (rd left)
  | [], _ => rfl
  | x :: r, h => by
    have hx := h x (List.mem_cons_self ..)
    rw [List.map_cons, List.map_cons, map_rd_set left j v hj hl r (fun y hy => h y (List.mem_cons_of_mem _ hy)), rd_set left j x v hj hx.1 hl, if_neg (by omega)]
theorem cyDown (n m : Nat) (h : m = n) (hn : n ≤ 1000) : wrap64 ((m : Int) - 1) = (n : Int) - 1 := by rw [h, w64 (by omega) (by omega)]
/-- The popping loop. -/
theorem cyPop (n i : Nat) (arr left d : List Int) (hi : i < n) (R : List Int) : ∀ (st : List Int), PInv n (i + 1) left st →
    Ev (fun k => spec_cyParents.l0 k arr (popZ left st).reverse ((popZ left st).map (rd left)).reverse d (n : Int) ((i + 1 : Nat) : Int)) R →
    Ev (fun k => spec_cyParents.l1 k arr st.reverse (st.map (rd left)).reverse ((st.length : Int) - 1) d (n : Int) (i : Int)) R := by
  intro st
  induction st with
  | nil =>
    intro h hR
    refine Ev.s ?_
    have c : ¬ ((([] : List Int).length : Int) - 1 ≥ 0) := by rw [List.length_nil]; omega
    simp only [spec_cyParents.l1, if_neg c, wsucc i n hi (by have := h.small; omega)]
    exact hR
  | cons j r ih =>
    intro h hR
    refine Ev.s ?_
    have hsl := h.sl
    have hsm := h.small
    rw [List.length_cons] at hsl
    have hx : ((j :: r).length : Int) - 1 = ((r.map (rd left)).reverse.length : Int) := by simp
    have hx2 : (r.map (rd left)).reverse.length = r.reverse.length := by simp
    have hx3 : (r.map (rd left)).reverse.length = r.length := by simp
    have e2 := rd_last (r.map (rd left)).reverse (rd left j)
    have c1 : (((r.map (rd left)).reverse.length : Nat) : Int) ≥ 0 := by omega
    have c3 : (((r.map (rd left)).reverse.length : Nat) : Int) < (((r.map (rd left)).reverse ++ [rd left j]).length : Int) := by rw [List.length_append, List.length_singleton]; omega
    have c4 : (((r.map (rd left)).reverse.length : Nat) : Int) ≤ (((r.map (rd left)).reverse ++ [rd left j]).length : Int) := by omega
    have c5 : (((r.map (rd left)).reverse.length : Nat) : Int) ≤ ((r.reverse ++ [j]).length : Int) := by rw [hx2, List.length_append, List.length_singleton]; omega
    have e3 := take_last (r.map (rd left)).reverse (rd left j)
    have e4 : (r.reverse ++ [j]).take (r.map (rd left)).reverse.length = r.reverse := by rw [hx2]; exact take_last _ _
    have hrl : r.length ≤ 1000 := by omega
    have w2 := cyDown r.length _ hx3 hrl
    have w := wsucc i n hi (by clear w2; omega)
    rw [hx, List.reverse_cons, List.map_cons, List.reverse_cons]
    by_cases z : rd left j = 0
    · rw [show popZ left (j :: r) = popZ left r from if_pos z] at hR
      simp only [spec_cyParents.l1, if_pos c1, if_pos c3, if_pos c4, if_pos c5, e2, if_pos z, Int.toNat_natCast, e3, e4, w2]
      exact ih h.tail hR
    · rw [show popZ left (j :: r) = j :: r from if_neg z, List.reverse_cons, List.map_cons, List.reverse_cons] at hR
      simp only [spec_cyParents.l1, if_pos c1, if_pos c3, e2, if_neg z, w]
      exact hR
theorem cyJ1 (n i : Nat) (arr left st d : List Int) (hi : i < n) (R : List Int) (h : PInv n (i + 1) left ((i : Int) :: st)) (x : Int) (hx : rd left (i : Int) = x)
    (hR : Ev (fun k => spec_cyParents.l0 k arr (popZ left ((i : Int) :: st)).reverse ((popZ left ((i : Int) :: st)).map (rd left)).reverse d (n : Int) ((i + 1 : Nat) : Int)) R) :
    Ev (fun k => spec_cyParents.j1 k arr st.reverse (st.map (rd left)).reverse (i : Int) x d (n : Int) (i : Int)) R := by
  refine Ev.s ?_
  have hsl := h.sl
  have hsm := h.small
  rw [List.length_cons] at hsl
  have c1 : st.reverse.length < 17592186044416 := by rw [List.length_reverse]; omega
  have c2 : (st.map (rd left)).reverse.length < 17592186044416 := by rw [List.length_reverse, List.length_map]; omega
  have w : wrap64 (((st.reverse ++ [(i : Int)]).length : Int) - 1) = ((((i : Int) :: st).length : Nat) : Int) - 1 := by
    rw [last_len _ _ (by rw [List.length_reverse]; omega), List.length_reverse, List.length_cons]; omega
  simp only [spec_cyParents.j1, if_pos c1, if_pos c2, Option.bind_some, w]
  have := cyPop n i arr left d hi R ((i : Int) :: st) h hR
  rw [List.reverse_cons, List.map_cons, List.reverse_cons, hx] at this
  exact this
theorem rep_set (par : List Int) (m : Nat) (v x : Int) : (par ++ v :: List.replicate m 0).set par.length x = par ++ x :: List.replicate m 0 := by
  rw [List.set_append_right _ _ (Nat.le_refl _), Nat.sub_self]
  rfl
theorem cyParents_l0 (l : List Int) (n : Nat) (hn : l.length = n) (R : List Int) : ∀ (d i : Nat) (par left st : List Int), i + d = n → par.length = i → PInv n i left st → popZ left st = st →
    (∀ j : Nat, i ≤ j → j < n → rd left (j : Int) = rd l (j : Int)) → PR d (i : Int) par left st = R →
    Ev (fun k => spec_cyParents.l0 k (par ++ List.replicate d 0) st.reverse (st.map (rd left)).reverse l (n : Int) (i : Int)) R := by
  intro d
  induction d with
  | zero =>
    intro i par left st hi hp h hpop hsame hR
    refine Ev.s ?_
    have c : ¬ ((i : Int) < (n : Int)) := by omega
    simp only [spec_cyParents.l0, if_neg c]
    rw [List.replicate_zero, List.append_nil, ← hR]
    exact Ev.now _
  | succ d ih =>
    intro i par left st hi hp h hpop hsame hR
    have hsm := h.small
    have hsl := h.sl
    have c1 : ((i : Int) < (n : Int)) := by omega
    have c2 : (0 : Int) ≤ (i : Int) := by omega
    have c3 : ((i : Int) < (l.length : Int)) := by omega
    have c4 : ((i : Int) < ((par ++ List.replicate (d + 1) 0).length : Int)) := by rw [List.length_append, List.length_replicate]; omega
    have s1 : (par ++ List.replicate (d + 1) 0).set i (-1) = par ++ (-1) :: List.replicate d 0 := by
      rw [List.replicate_succ, ← hp, rep_set]
    cases st with
    | nil =>
      refine Ev.s ?_
      have w : wrap64 ((([] : List Int).length : Int) - 1) = -1 := by rw [List.length_nil, w64 (by omega) (by omega)]; omega
      have c5 : ¬ ((-1 : Int) ≥ 0) := by omega
      simp only [spec_cyParents.l0, if_pos c1, if_pos c2, if_pos c3, if_pos c4, Option.bind_some, List.reverse_nil, w, if_neg c5, Int.toNat_natCast, s1]
      rw [PR_nil _ _ _ _ _ rfl, ← Int.natCast_succ] at hR
      have hi1 := h.one
      have := cyJ1 n i (par ++ (-1) :: List.replicate d 0) left [] l (by omega) R hi1 (rd l (i : Int)) (hsame i (Nat.le_refl _) (by omega)) ?_
      · exact this
      · have := ih (i + 1) (par ++ [-1]) left (popZ left [(i : Int)]) (by omega) (by rw [List.length_append, List.length_singleton, hp]) hi1.pop (popZ_idem _ _) (fun j hj hj2 => hsame j (by omega) hj2) (by
          rw [← hR]
          cases d with
          | zero => rfl
          | succ d =>
            cases hc : popZ left [(i : Int)] with
            | nil => rw [PR_nil _ _ _ _ _ hc, PR_nil _ _ _ _ _ rfl]
            | cons a s =>
              have hid := popZ_idem left [(i : Int)]
              rw [hc] at hid
              rw [PR_cons _ _ _ _ _ _ _ hc, PR_cons _ _ _ _ _ _ _ hid])
        rw [List.append_assoc] at this
        exact this
    | cons j r =>
      rw [List.length_cons] at hsl
      refine Ev.s ?_
      have hj := h.inn j (List.mem_cons_self ..)
      have hlen := h.len
      have hz := popZ_top left _ _ _ hpop
      have hr := h.rdn j.toNat (by omega)
      rw [show ((j.toNat : Nat) : Int) = j from by omega] at hr
      have w := last_len r.reverse j (by rw [List.length_reverse]; omega)
      have hx2 : (r.map (rd left)).reverse.length = r.reverse.length := by simp
      have c5 : ((r.reverse.length : Nat) : Int) ≥ 0 := by omega
      have c6 : ((r.reverse.length : Nat) : Int) < ((r.reverse ++ [j]).length : Int) := by rw [List.length_append, List.length_singleton]; omega
      have c7 : ((r.reverse.length : Nat) : Int) < (((r.map (rd left)).reverse ++ [rd left j]).length : Int) := by rw [List.length_append, List.length_singleton, hx2]; omega
      have e2 := rd_last r.reverse j
      have e3 : rd ((r.map (rd left)).reverse ++ [rd left j]) ((r.reverse.length : Nat) : Int) = rd left j := by rw [← hx2]; exact rd_last _ _
      have w2 := w64 (n := rd left j - 1) (by omega) (by omega)
      have s2 : ((r.map (rd left)).reverse ++ [rd left j]).set r.reverse.length (rd left j - 1) = (r.map (rd left)).reverse ++ [rd left j - 1] := by rw [← hx2]; exact set_last _ _ _
      have s3 : (par ++ (-1) :: List.replicate d 0).set i j = par ++ j :: List.replicate d 0 := by rw [← hp]; exact rep_set _ _ _ _
      rw [List.reverse_cons, List.map_cons, List.reverse_cons]
      simp only [spec_cyParents.l0, if_pos c1, if_pos c2, if_pos c3, if_pos c4, Option.bind_some, w, if_pos c5, if_pos c6, if_pos c7, e2, e3, w2, Int.toNat_natCast, s1, s2, s3]
      rw [PR_cons _ _ _ _ _ _ _ hpop, ← Int.natCast_succ] at hR
      have hi1 := h.push (by omega) hz
      generalize hL : left.set j.toNat (rd left j - 1) = left' at hR hi1
      have hmr : r.map (rd left') = r.map (rd left) := by
        rw [← hL]
        exact map_rd_set left j _ hj.1 (by omega) r (fun x hx => ⟨(h.inn x (List.mem_cons_of_mem _ hx)).1, (List.pairwise_cons.1 h.pw).1 x hx⟩)
      have hjj : rd left' j = rd left j - 1 := by
        rw [← hL, rd_set left j j _ hj.1 hj.1 (by omega), if_pos rfl]
      have hsame' : ∀ m : Nat, i ≤ m → m < n → rd left' (m : Int) = rd l (m : Int) := fun m hm hm2 => by
        rw [← hL, rd_set left j m _ hj.1 (by omega) (by omega), if_neg (by omega)]
        exact hsame m hm hm2
      have := cyJ1 n i (par ++ j :: List.replicate d 0) left' (j :: r) l (by omega) R hi1 (rd l (i : Int)) (hsame' i (Nat.le_refl _) (by omega)) ?_
      · rw [List.reverse_cons, List.map_cons, List.reverse_cons, hmr, hjj] at this
        exact this
      · have := ih (i + 1) (par ++ [j]) left' (popZ left' ((i : Int) :: j :: r)) (by omega) (by rw [List.length_append, List.length_singleton, hp]) hi1.pop (popZ_idem _ _) (fun m hm hm2 => hsame' m (by omega) hm2) (by
          rw [← hR]
          cases d with
          | zero => rfl
          | succ d =>
            cases hc : popZ left' ((i : Int) :: j :: r) with
            | nil => rw [PR_nil _ _ _ _ _ hc, PR_nil _ _ _ _ _ rfl]
            | cons a s =>
              have hid := popZ_idem left' ((i : Int) :: j :: r)
              rw [hc] at hid
              rw [PR_cons _ _ _ _ _ _ _ hc, PR_cons _ _ _ _ _ _ _ hid])
        rw [List.append_assoc] at this
        exact this
theorem cyParents_ev (l : List Int) (h : DegB l = true) : Ev (fun k => spec_cyParents.f k l) (PAR l) := by
  have hl := (DegB_iff h).1
  unfold spec_cyParents.f
  have c1 : (0 : Int) ≤ (l.length : Int) := by omega
  have c2 : l.length ≤ 35184372088832 := by omega
  simp only [if_pos c1, if_pos c2, Int.toNat_natCast]
  exact cyParents_l0 l l.length rfl (PAR l) l.length 0 [] l [] (by omega) rfl (PInv_start h) rfl (fun _ _ _ => rfl) rfl

theorem cyIs_ev (l : List Int) (hn : l.length ≤ 35184372088832) : Ev (fun k => spec_cyIs.f k l) (DegB l && ForB l) := by
  unfold spec_cyIs.f
  refine Ev.bs (cyGood_ev l hn) ?_
  by_cases hd : DegB l = true
  · simp only [hd, Bool.true_and]; exact Ev.bs (cyForest_ev l hd) (Ev.now _)
  · simp only [Bool.not_eq_true _ ▸ hd, Bool.false_and]; exact Ev.now _
theorem areForest_ev (l : List Int) (hn : l.length ≤ 35184372088832) : Ev (fun k => impl_areForest.f k l) (DegB l && ForB l) := by
  unfold impl_areForest.f
  refine Ev.bs (isDegrees_ev l hn) ?_
  by_cases hd : DegB l = true
  · simp only [hd, Bool.true_and]; exact Ev.bs (isForest_ev l hd) (Ev.now _)
  · simp only [Bool.not_eq_true _ ▸ hd, Bool.false_and]; exact Ev.now _

theorem PR_props : ∀ (d i n : Nat) (par left st : List Int), i + d = n → par.length = i → PInv n i left st → (∀ m : Nat, m < i → -1 ≤ rd par (m : Int) ∧ rd par (m : Int) < (m : Int)) →
    (PR d (i : Int) par left st).length = n ∧ ∀ m : Nat, m < n → -1 ≤ rd (PR d (i : Int) par left st) (m : Int) ∧ rd (PR d (i : Int) par left st) (m : Int) < (m : Int) := by
  intro d
  induction d with
  | zero =>
    intro i n par left st hi hp h hm
    refine ⟨by show par.length = n; omega, fun m hmn => hm m (by omega)⟩
  | succ d ih =>
    intro i n par left st hi hp h hm
    have step : ∀ v : Int, -1 ≤ v ∧ v < (i : Int) → ∀ m : Nat, m < i + 1 → -1 ≤ rd (par ++ [v]) (m : Int) ∧ rd (par ++ [v]) (m : Int) < (m : Int) := by
      intro v hv m hm2
      by_cases c : m = i
      · rw [c]
        have := rd_last par v
        rw [hp] at this
        rw [this]; exact hv
      · rw [rd_app par [v] m (by omega) (by omega)]
        exact hm m (by omega)
    cases hc : popZ left st with
    | nil =>
      rw [PR_nil _ _ _ _ _ hc, ← Int.natCast_succ]
      have hpop := h.pop
      rw [hc] at hpop
      exact ih (i + 1) n _ _ _ (by omega) (by rw [List.length_append, List.length_singleton, hp]) hpop.one (step (-1) (by omega))
    | cons j r =>
      rw [PR_cons _ _ _ _ _ _ _ hc, ← Int.natCast_succ]
      have hpop := h.pop
      have hz := popZ_top left _ _ _ hc
      rw [hc] at hpop
      have hj := hpop.inn j (List.mem_cons_self ..)
      exact ih (i + 1) n _ _ _ (by omega) (by rw [List.length_append, List.length_singleton, hp]) (hpop.push (by omega) hz) (step j (by omega))
theorem PAR_props (l : List Int) (h : DegB l = true) : (PAR l).length = l.length ∧ ∀ m : Nat, m < l.length → -1 ≤ rd (PAR l) (m : Int) ∧ rd (PAR l) (m : Int) < (m : Int) :=
  PR_props l.length 0 l.length [] l [] (by omega) rfl (PInv_start h) (fun m hm => by omega)

/-- k, k + 1, .. -/
def upL : Int → Nat → List Int
  | _, 0 => []
  | k, n + 1 => k :: upL (k + 1) n
theorem upL_len : ∀ (n : Nat) (k : Int), (upL k n).length = n
  | 0, _ => rfl
  | n + 1, k => by simp only [upL, List.length_cons, upL_len n]
theorem upL_snoc : ∀ (n : Nat) (k : Int), upL k (n + 1) = upL k n ++ [k + n]
  | 0, k => by simp [upL]
  | n + 1, k => by
    rw [upL, upL_snoc n (k + 1), upL, List.cons_append, Int.natCast_succ, show k + 1 + (n : Int) = k + ((n : Int) + 1) from by omega]
theorem upL_rd : ∀ (n i : Nat) (k : Int), i < n → rd (upL k n) (i : Int) = k + i
  | n + 1, 0, k, _ => by simp [upL, rd_cons_zero]
  | n + 1, i + 1, k, h => by
    rw [upL, rd_cons_succ, upL_rd n i (k + 1) (by omega), Int.natCast_succ]; omega
theorem markIntS_ev (l : List Int) (hl : l.length ≤ 2000000) : Ev (fun k => laws_markIntS.f k l 1) (1 + (l.length : Int), upL 1 l.length) := by
  have key : ∀ (d i : Nat) (m : List Int), i + d = l.length → m.length = l.length → m.take i = upL 1 i → Ev (fun k => laws_markIntS.l0 k m (1 + (i : Int)) (i : Int)) (1 + (l.length : Int), upL 1 l.length) := by
    intro d
    induction d with
    | zero =>
      intro i m hi hm ht
      refine Ev.s ?_
      have c : ¬ ((i : Int) < (m.length : Int)) := by omega
      simp only [laws_markIntS.l0, if_neg c]
      rw [List.take_of_length_le (by omega)] at ht
      rw [ht, show i = l.length from by omega]
      exact Ev.now _
    | succ d ih =>
      intro i m hi hm ht
      refine Ev.s ?_
      have c1 : ((i : Int) < (m.length : Int)) := by omega
      have c2 : (0 : Int) ≤ (i : Int) := by omega
      have e := wsucc i l.length (by omega) (by omega)
      have e2 : wrap64 (1 + (i : Int) + 1) = 1 + ((i + 1 : Nat) : Int) := by rw [w64 (by omega) (by omega)]; omega
      simp only [laws_markIntS.l0, if_pos c1, if_pos c2, e, e2, Int.toNat_natCast]
      refine ih (i + 1) _ (by omega) (by simpa using hm) ?_
      rw [List.take_succ_eq_append_getElem (by simp; omega), List.take_set_of_le (by omega), ht, upL_snoc]
      simp
  have := key l.length 0 l (by omega) rfl rfl
  exact this
theorem heldIntS_ev (n : Nat) (hn : n ≤ 2000000) : Ev (fun k => laws_heldIntS.f k (upL 1 n) 1) (1 + (n : Int)) := by
  have key : ∀ (d i : Nat), i + d = n → Ev (fun k => laws_heldIntS.l0 k (upL 1 n) (1 + (i : Int)) (i : Int)) (1 + (n : Int)) := by
    intro d
    induction d with
    | zero =>
      intro i hi
      refine Ev.s ?_
      have c : ¬ ((i : Int) < ((upL 1 n).length : Int)) := by rw [upL_len]; omega
      simp only [laws_heldIntS.l0, if_neg c]
      rw [show i = n from by omega]
      exact Ev.now _
    | succ d ih =>
      intro i hi
      refine Ev.s ?_
      have c1 : ((i : Int) < ((upL 1 n).length : Int)) := by rw [upL_len]; omega
      have c2 : (0 : Int) ≤ (i : Int) := by omega
      have c3 := upL_rd n i 1 (by omega)
      have e := wsucc i n (by omega) (by omega)
      have e2 : wrap64 (1 + (i : Int) + 1) = 1 + ((i + 1 : Nat) : Int) := by rw [w64 (by omega) (by omega)]; omega
      simp only [laws_heldIntS.l0, if_pos c1, if_pos c2, c3, if_true, e, e2]
      exact ih (i + 1) (by omega)
  have := key n 0 (by omega)
  exact this

/-- The depths, from a place on. -/
def DP : List Int → List Int → List Int
  | a, [] => a
  | a, p :: r => DP (a ++ [if p < 0 then 0 else rd a p + 1]) r
theorem DP_len : ∀ (r a : List Int), (DP a r).length = a.length + r.length
  | [], _ => rfl
  | p :: r, a => by rw [DP, DP_len r, List.length_append, List.length_singleton, List.length_cons]; omega
theorem dp_bd (a : List Int) (i : Nat) (p : Int) (ha : a.length = i) (hb : ∀ m : Nat, m < i → 0 ≤ rd a (m : Int) ∧ rd a (m : Int) ≤ (m : Int)) (hp : p < (i : Int)) :
    ∀ m : Nat, m < i + 1 → 0 ≤ rd (a ++ [if p < 0 then 0 else rd a p + 1]) (m : Int) ∧ rd (a ++ [if p < 0 then 0 else rd a p + 1]) (m : Int) ≤ (m : Int) := by
  intro m hm
  by_cases c : m = i
  · rw [c]
    have := rd_last a (if p < 0 then 0 else rd a p + 1)
    rw [ha] at this
    rw [this]
    by_cases z : p < 0
    · rw [if_pos z]; omega
    · rw [if_neg z]
      have := hb p.toNat (by omega)
      rw [show ((p.toNat : Nat) : Int) = p from by omega] at this
      omega
  · rw [rd_app a _ m (by omega) (by omega)]
    exact hb m (by omega)
theorem implDepths_l0 (P : List Int) (hP : P.length ≤ 16) (hpp : ∀ m : Nat, m < P.length → -1 ≤ rd P (m : Int) ∧ rd P (m : Int) < (m : Int)) : ∀ (d i : Nat) (a : List Int), i + d = P.length → a.length = i → (∀ m : Nat, m < i → 0 ≤ rd a (m : Int) ∧ rd a (m : Int) ≤ (m : Int)) →
    Ev (fun k => impl_DepthsOf.l0 k a P (P.length : Int) (i : Int)) (DP a (P.drop i), true) := by
  intro d
  induction d with
  | zero =>
    intro i a hi ha hb
    refine Ev.s ?_
    have c : ¬ ((i : Int) < (P.length : Int)) := by omega
    simp only [impl_DepthsOf.l0, if_neg c]
    rw [List.drop_of_length_le (by omega)]
    exact Ev.now _
  | succ d ih =>
    intro i a hi ha hb
    have hp := hpp i (by omega)
    have c1 : ((i : Int) < (P.length : Int)) := by omega
    have c2 : (0 : Int) ≤ (i : Int) := by omega
    have c4 : a.length < 17592186044416 := by omega
    have hnext := ih (i + 1) (a ++ [if rd P (i : Int) < 0 then 0 else rd a (rd P (i : Int)) + 1]) (by omega) (by rw [List.length_append, List.length_singleton, ha]) (dp_bd a i _ ha hb hp.2)
    rw [drop_rd P i (by omega), DP]
    refine Ev.s ?_
    by_cases z : rd P (i : Int) < 0
    · rw [if_pos z] at hnext ⊢
      simp only [impl_DepthsOf.l0, if_pos c1, if_pos c2, if_pos z, if_pos c4, wsucc i 16 (by omega) (by omega)]
      exact hnext
    · rw [if_neg z] at hnext ⊢
      have c5 : (0 : Int) ≤ rd P (i : Int) := by omega
      have c6 : rd P (i : Int) < (a.length : Int) := by omega
      have hr := hb (rd P (i : Int)).toNat (by omega)
      rw [show (((rd P (i : Int)).toNat : Nat) : Int) = rd P (i : Int) from by omega] at hr
      have w := w64 (n := rd a (rd P (i : Int)) + 1) (by omega) (by omega)
      simp only [impl_DepthsOf.l0, if_pos c1, if_pos c2, if_neg z, if_pos c4, if_pos c5, if_pos c6, w, wsucc i 16 (by omega) (by omega)]
      exact hnext

theorem cyDepths_l0 (P : List Int) (hP : P.length ≤ 16) (hpp : ∀ m : Nat, m < P.length → -1 ≤ rd P (m : Int) ∧ rd P (m : Int) < (m : Int)) : ∀ (d i : Nat) (a : List Int), i + d = P.length → a.length = i → (∀ m : Nat, m < i → 0 ≤ rd a (m : Int) ∧ rd a (m : Int) ≤ (m : Int)) →
    Ev (fun k => spec_cyDepths.l0 k (a ++ List.replicate d 0) P (P.length : Int) (i : Int)) (DP a (P.drop i)) := by
  intro d
  induction d with
  | zero =>
    intro i a hi ha hb
    refine Ev.s ?_
    have c : ¬ ((i : Int) < (P.length : Int)) := by omega
    simp only [spec_cyDepths.l0, if_neg c]
    rw [List.drop_of_length_le (by omega), List.replicate_zero, List.append_nil]
    exact Ev.now _
  | succ d ih =>
    intro i a hi ha hb
    have hp := hpp i (by omega)
    have c1 : ((i : Int) < (P.length : Int)) := by omega
    have c2 : (0 : Int) ≤ (i : Int) := by omega
    have c4 : ((i : Int) < ((a ++ List.replicate (d + 1) 0).length : Int)) := by rw [List.length_append, List.length_replicate]; omega
    have hnext := ih (i + 1) (a ++ [if rd P (i : Int) < 0 then 0 else rd a (rd P (i : Int)) + 1]) (by omega) (by rw [List.length_append, List.length_singleton, ha]) (dp_bd a i _ ha hb hp.2)
    rw [drop_rd P i (by omega), DP]
    refine Ev.s ?_
    by_cases z : rd P (i : Int) < 0
    · have z' : ¬ (rd P (i : Int) ≥ 0) := by omega
      rw [if_pos z] at hnext ⊢
      simp only [spec_cyDepths.l0, if_pos c1, if_pos c2, if_neg z', wsucc i 16 (by omega) (by omega)]
      rw [List.append_assoc] at hnext
      exact hnext
    · rw [if_neg z] at hnext ⊢
      have c5 : rd P (i : Int) ≥ 0 := by omega
      have c6 : rd P (i : Int) < ((a ++ List.replicate (d + 1) 0).length : Int) := by omega
      have hr := hb (rd P (i : Int)).toNat (by omega)
      rw [show (((rd P (i : Int)).toNat : Nat) : Int) = rd P (i : Int) from by omega] at hr
      have e := rd_app a (List.replicate (d + 1) 0) (rd P (i : Int)) c5 (by omega)
      have w := w64 (n := rd a (rd P (i : Int)) + 1) (by omega) (by omega)
      have s : (a ++ List.replicate (d + 1) 0).set i (rd a (rd P (i : Int)) + 1) = a ++ (rd a (rd P (i : Int)) + 1) :: List.replicate d 0 := by
        rw [List.replicate_succ, ← ha]; exact rep_set _ _ _ _
      simp only [spec_cyDepths.l0, if_pos c1, if_pos c2, if_pos c5, if_pos c4, if_pos c6, e, w, Int.toNat_natCast, s, wsucc i 16 (by omega) (by omega)]
      rw [List.append_assoc] at hnext
      exact hnext
theorem cyDepths_ev (l : List Int) (h : DegB l = true) : Ev (fun k => spec_cyDepths.f k l) (DP [] (PAR l)) := by
  have hl := (DegB_iff h).1
  obtain ⟨hp1, hp2⟩ := PAR_props l h
  unfold spec_cyDepths.f
  have c1 : (0 : Int) ≤ (l.length : Int) := by omega
  have c2 : l.length ≤ 35184372088832 := by omega
  simp only [if_pos c1, if_pos c2, Int.toNat_natCast]
  refine Ev.bs (cyParents_ev l h) ?_
  have := cyDepths_l0 (PAR l) (by omega) (fun m hm => hp2 m (by omega)) (PAR l).length 0 [] (by omega) rfl (fun m hm => by omega)
  rw [List.drop_zero, List.nil_append, hp1] at this
  rw [hp1]
  exact this

theorem DepthsOf_frame (l : List Int) (hl : l.length ≤ 2000000) (v : List Int) (b : Bool) (hv : v.length ≤ 2000000) (e1 : Ev (fun k => spec_DepthsOf.f k l) (v, b)) (e2 : Ev (fun k => impl_DepthsOf.f k l) (v, b)) :
    Ev (fun k => laws_FnExactDepthsOf.f k l) true := by
  unfold laws_FnExactDepthsOf.f
  by_cases h : (l.length : Int) > 1048576
  · simp only [if_pos h]; exact Ev.now _
  simp only [if_neg h]
  have ht := toIntS_ev l (by omega)
  have hh := heldIntS_ev v.length hv
  refine Ev.bs ht (Ev.bs e1 (Ev.bs ht (Ev.bs e2 (Ev.bs (eqIntS_ev v v (by omega)) ?_))))
  simp only [decide_true, if_true, bne_self_eq_false]
  refine Ev.s ?_
  simp only [laws_FnExactDepthsOf.j0, Bool.false_eq_true, if_false]
  have c1 : ¬ (1 + (v.length : Int) < 0) := by omega
  have c2 : ¬ (1 + (l.length : Int) < 0) := by omega
  refine Ev.bs ht (Ev.bs (eqIntS_ev l l (by omega)) ?_)
  simp only [decide_true, if_true]
  refine Ev.bs (markIntS_ev l hl) ?_
  simp only [if_neg c2]
  refine Ev.bs (eqIntS_ev v v (by omega)) ?_
  simp only [decide_true, if_true, bne_self_eq_false]
  refine Ev.s ?_
  simp only [laws_FnExactDepthsOf.j1, Bool.false_eq_true, if_false]
  refine Ev.bs (markIntS_ev v hv) (Ev.bs hh ?_)
  simp only [if_neg c1, if_true]
  refine Ev.bs ht (Ev.bs e2 (Ev.bs (eqIntS_ev v v (by omega)) ?_))
  simp only [decide_true, if_true, bne_self_eq_false]
  refine Ev.s ?_
  simp only [laws_FnExactDepthsOf.j2, Bool.false_eq_true, if_false]
  refine Ev.bs hh ?_
  simp only [if_neg c1, if_true]
  exact Ev.now _
theorem DepthsOf_far (l : List Int) (h : (l.length : Int) > 1048576) : Ev (fun k => laws_FnExactDepthsOf.f k l) true := by
  unfold laws_FnExactDepthsOf.f
  simp only [if_pos h]; exact Ev.now _

theorem FnExactDepthsOf : laws_FnExactDepthsOf.Pure := by
  intro l _ _ _
  refine Ev.rounds ?_
  by_cases hbig : (l.length : Int) > 1048576
  · exact DepthsOf_far l hbig
  have hn : l.length ≤ 35184372088832 := by omega
  by_cases hf : (DegB l && ForB l) = true
  · have hd : DegB l = true := (Bool.and_eq_true _ _ ▸ hf).1
    have hp := PAR_props l hd
    have h16 := (DegB_iff hd).1
    have hlen := DP_len (PAR l) []
    rw [List.length_nil] at hlen
    refine DepthsOf_frame l (by omega) (DP [] (PAR l)) true (by omega) ?_ ?_
    · unfold spec_DepthsOf.f
      refine Ev.bs (cyIs_ev l hn) ?_
      simp only [hf, if_true]
      exact Ev.bs (cyDepths_ev l hd) (Ev.now _)
    · unfold impl_DepthsOf.f
      refine Ev.bs (areForest_ev l hn) ?_
      simp only [hf, if_true]
      refine Ev.bs (implParents_ev l hd) ?_
      have := implDepths_l0 (PAR l) (by omega) (fun m hm => hp.2 m (by omega)) (PAR l).length 0 [] (by omega) rfl (fun m hm => by omega)
      rw [List.drop_zero] at this
      exact this
  · refine DepthsOf_frame l (by omega) [] false (by simp) ?_ ?_
    · unfold spec_DepthsOf.f
      refine Ev.bs (cyIs_ev l hn) ?_
      simp only [if_neg hf]
      exact Ev.now _
    · unfold impl_DepthsOf.f
      refine Ev.bs (areForest_ev l hn) ?_
      simp only [if_neg hf]
      exact Ev.now _

end Go.Proofs.Ytepheolianmkbaa.Pure
