/- The plain law of the statement FnExactFirstForest: what the program's function computes is what the reference's computes, for all arguments; no condition. -/
import Derived.Test.YtblofikjcmjaeaaPFnExactFirstForestx4
namespace Go.Proofs.Ytblofikjcmjaeaa.Pure
open Go.RowKit Go.Proofs.Ytblofikjcmjaeaa.PFnExactFirstForest Go.Proofs.YtblofikjcmjaeaaW.PrintWords Go.Proofs.YtblofikjcmjaeaaW.PrintLast Go.Proofs.YtblofikjcmjaeaaW.PrintMore

theorem Ev.s {α : Type} {g : Nat → Option α} {r : α} (h : Ev (fun k => g (k + 1)) r) : Ev g r := by
  obtain ⟨K, hK⟩ := h
  refine ⟨K + 1, fun k hk => ?_⟩
  obtain ⟨m, rfl⟩ : ∃ m, k = m + 1 := ⟨k - 1, by omega⟩
  exact hK m (by omega)
theorem Ev.c {α : Type} {o : Option α} {r : α} (h : o = some r) : Ev (fun _ => o) r := ⟨0, fun _ _ => h⟩
theorem Ev.u {α : Type} {g : Nat → Option α} {r r' : α} (h : Ev g r) (h' : Ev g r') : r = r' := by
  obtain ⟨K, hK⟩ := h
  obtain ⟨K', hK'⟩ := h'
  have a := hK (max K K') (by omega)
  have b := hK' (max K K') (by omega)
  rw [a] at b
  exact Option.some.inj b
theorem Ev.e {α : Type} {g : Nat → Option α} {r r' : α} (h : Ev g r) (e : r = r') : Ev g r' := e ▸ h
theorem Ev.bs {α β : Type} {g : Nat → Option α} {f : Nat → α → Option β} {a : α} {r : β} (h : Ev g a) (k : Ev (fun n => f n a) r) : Ev (fun n => Option.bind (g n) (f n)) r := Ev.bind h k
theorem w64 {n : Int} (h : -9223372036854775808 ≤ n) (h' : n ≤ 9223372036854775807) : wrap64 n = n := by unfold wrap64; omega
theorem rd_set (l : List Int) (i j : Int) (v : Int) (hi : 0 ≤ i) (hj : 0 ≤ j) (hl : i < (l.length : Int)) : rd (l.set i.toNat v) j = if i = j then v else rd l j := by
  unfold rd
  rw [List.getD_eq_getElem?_getD, List.getD_eq_getElem?_getD, List.getElem?_set]
  by_cases e : i = j
  · subst e; rw [if_pos rfl, if_pos rfl, if_pos (by omega)]; rfl
  · rw [if_neg (by omega), if_neg e]

theorem drop_rd (l : List Int) (i : Nat) (h : i < l.length) : l.drop i = rd l (i : Int) :: l.drop (i + 1) := by
  rw [List.drop_eq_getElem_cons h]
  unfold rd
  rw [Int.toNat_natCast, List.getD_eq_getElem?_getD, List.getElem?_eq_getElem h]
  rfl
theorem rd_get (l : List Int) (i : Nat) (h : i < l.length) : rd l (i : Int) = l[i] := by
  unfold rd
  rw [Int.toNat_natCast, List.getD_eq_getElem?_getD, List.getElem?_eq_getElem h]
  rfl
theorem wsucc (i n : Nat) (h : i < n) (hn : n ≤ 9223372036854775807) : wrap64 ((i : Int) + 1) = ((i + 1 : Nat) : Int) := by
  rw [w64 (by omega) (by omega)]; omega
theorem rd_cons_succ (x : Int) (l : List Int) (i : Nat) : rd (x :: l) ((i + 1 : Nat) : Int) = rd l (i : Int) := by
  unfold rd
  simp only [Int.toNat_natCast, List.getD_cons_succ]
theorem rd_cons_zero (x : Int) (l : List Int) : rd (x :: l) 0 = x := rfl

theorem in_eq (a b c : Int) : impl_in.f a b c = some (decide (b ≤ a ∧ a ≤ c)) := by
  unfold impl_in.f
  by_cases h : b ≤ a
  · rw [if_pos h]; simp [h]
  · rw [if_neg h]; simp [h]
theorem l1In_eq (a b c : Int) : spec_l1In.f a b c = some (decide (b ≤ a ∧ a ≤ c)) := by
  unfold spec_l1In.f
  by_cases h : a ≥ b
  · rw [if_pos h]; simp [h]
  · rw [if_neg h]; simp [h]

theorem toIntS_l0 (l : List Int) (hn : l.length ≤ 35184372088832) (d : Nat) : ∀ (i : Nat) (m : List Int), i + d = l.length → m.length = l.length → m.take i = l.take i →
    Ev (fun k => laws_toIntS.l0 k l m (i : Int)) l := by
  induction d with
  | zero =>
    intro i m hi hm ht
    refine Ev.s ?_
    have c : ¬ ((i : Int) < (l.length : Int)) := by omega
    simp only [laws_toIntS.l0, if_neg c]
    rw [List.take_of_length_le (by omega), List.take_of_length_le (by omega)] at ht
    rw [ht]; exact Ev.now _
  | succ d ih =>
    intro i m hi hm ht
    refine Ev.s ?_
    have c1 : ((i : Int) < (l.length : Int)) := by omega
    have c2 : (0 : Int) ≤ (i : Int) := by omega
    have c3 : ((i : Int) < (m.length : Int)) := by omega
    have e := wsucc i l.length (by omega) (by omega)
    simp only [laws_toIntS.l0, if_pos c1, if_pos c2, if_pos c3, e, Int.toNat_natCast]
    refine ih (i + 1) _ (by omega) (by simpa using hm) ?_
    rw [rd_get l i (by omega)]
    rw [List.take_succ_eq_append_getElem (by simp; omega), List.take_set_of_le (by omega), ht, List.take_succ_eq_append_getElem (by omega)]
    simp
theorem toIntS_ev (l : List Int) (hn : l.length ≤ 35184372088832) : Ev (fun k => laws_toIntS.f k l) l := by
  unfold laws_toIntS.f
  have c1 : (0 : Int) ≤ (l.length : Int) := by omega
  have c2 : ((l.length : Int) : Int).toNat ≤ 35184372088832 := by omega
  simp only [if_pos c1, if_pos c2]
  exact toIntS_l0 l hn l.length 0 _ (by omega) (by simp) (by simp)

theorem eqIntS_l0 (l m : List Int) (hl : l.length = m.length) (hn : l.length ≤ 35184372088832) (d : Nat) : ∀ (i : Nat), i + d = l.length →
    Ev (fun k => laws_eqIntS.l0 k l m (i : Int)) (decide (l.drop i = m.drop i)) := by
  induction d with
  | zero =>
    intro i hi
    refine Ev.s ?_
    have c : ¬ ((i : Int) < (l.length : Int)) := by omega
    simp only [laws_eqIntS.l0, if_neg c]
    rw [List.drop_of_length_le (by omega), List.drop_of_length_le (by omega)]
    exact Ev.now _
  | succ d ih =>
    intro i hi
    refine Ev.s ?_
    have c1 : ((i : Int) < (l.length : Int)) := by omega
    have c2 : (0 : Int) ≤ (i : Int) := by omega
    have c3 : ((i : Int) < (m.length : Int)) := by omega
    have e := wsucc i l.length (by omega) (by omega)
    simp only [laws_eqIntS.l0, if_pos c1, if_pos c2, if_pos c3, e]
    rw [drop_rd l i (by omega), drop_rd m i (by omega)]
    by_cases h : rd l (i : Int) = rd m (i : Int)
    · simp only [if_pos h]
      refine Ev.e (ih (i + 1) (by omega)) ?_
      simp [h]
    · simp only [if_neg h]
      have : (decide (rd l (i : Int) :: l.drop (i + 1) = rd m (i : Int) :: m.drop (i + 1))) = false := by
        apply decide_eq_false; intro h'; exact h (List.cons.inj h').1
      rw [this]; exact Ev.now _
theorem eqIntS_ev (l m : List Int) (hn : l.length ≤ 35184372088832) : Ev (fun k => laws_eqIntS.f k l m) (decide (l = m)) := by
  unfold laws_eqIntS.f
  by_cases h : l.length = m.length
  · have c : ((l.length : Int) = (m.length : Int)) := by omega
    simp only [if_pos c]
    exact eqIntS_l0 l m h hn l.length 0 (by omega)
  · have c : ¬ ((l.length : Int) = (m.length : Int)) := by omega
    simp only [if_neg c]
    have : decide (l = m) = false := by apply decide_eq_false; intro e; rw [e] at h; exact h rfl
    rw [this]; exact Ev.now _

/-- Are these degrees? -/
def DegB (l : List Int) : Bool := decide (1 ≤ l.length ∧ l.length ≤ 16) && l.all (fun x => decide (0 ≤ x ∧ x ≤ 16))

theorem l1All_l0 (lo hi : Int) (l : List Int) (hn : l.length ≤ 35184372088832) (d : Nat) : ∀ (i : Nat), i + d = l.length →
    Ev (fun k => spec_l1All.l0 k lo hi l (l.length : Int) (i : Int)) ((l.drop i).all (fun x => decide (lo ≤ x ∧ x ≤ hi))) := by
  induction d with
  | zero =>
    intro i h
    refine Ev.s ?_
    have c : ¬ ((i : Int) < (l.length : Int)) := by omega
    simp only [spec_l1All.l0, if_neg c]
    rw [List.drop_of_length_le (by omega)]
    exact Ev.now _
  | succ d ih =>
    intro i h
    refine Ev.s ?_
    have c1 : ((i : Int) < (l.length : Int)) := by omega
    have c2 : (0 : Int) ≤ (i : Int) := by omega
    have e := wsucc i l.length (by omega) (by omega)
    rw [drop_rd l i (by omega)]
    simp only [spec_l1All.l0, if_pos c1, if_pos c2, e, l1In_eq, Option.bind_some, decide_eq_true_eq, List.all_cons]
    by_cases h' : lo ≤ rd l (i : Int) ∧ rd l (i : Int) ≤ hi
    · simp only [if_pos h', decide_eq_true h', Bool.true_and]
      exact ih (i + 1) (by omega)
    · simp only [if_neg h', decide_eq_false h', Bool.false_and]
      exact Ev.now _
theorem l1All_ev (lo hi : Int) (l : List Int) (hn : l.length ≤ 35184372088832) : Ev (fun k => spec_l1All.f k l lo hi) (l.all (fun x => decide (lo ≤ x ∧ x ≤ hi))) := by
  unfold spec_l1All.f
  exact l1All_l0 lo hi l hn l.length 0 (by omega)

/-- The excess from a place on. -/
def sumL : List Int → Int
  | [] => 0
  | x :: r => x + sumL r
theorem sumL_append (l m : List Int) : sumL (l ++ m) = sumL l + sumL m := by
  induction l with
  | nil => simp [sumL]
  | cons x r ih => simp only [List.cons_append, sumL, ih]; omega

theorem DegB_iff {l : List Int} (h : DegB l = true) : (1 ≤ l.length ∧ l.length ≤ 16) ∧ ∀ x ∈ l, 0 ≤ x ∧ x ≤ 16 := by
  unfold DegB at h
  simp only [Bool.and_eq_true, decide_eq_true_eq, List.all_eq_true] at h
  exact ⟨h.1, h.2⟩
theorem sumL_bd (l : List Int) (h : ∀ x ∈ l, 0 ≤ x ∧ x ≤ 16) : 0 ≤ sumL l ∧ sumL l ≤ 16 * (l.length : Int) := by
  induction l with
  | nil => simp [sumL]
  | cons x r ih =>
    have := ih (fun y hy => h y (List.mem_cons_of_mem _ hy))
    have hx := h x List.mem_cons_self
    simp only [sumL, List.length_cons]; omega
theorem deg_drop {l : List Int} (h : DegB l = true) (i : Nat) : 0 ≤ sumL (l.drop i) ∧ sumL (l.drop i) ≤ 256 := by
  obtain ⟨h1, h2⟩ := DegB_iff h
  have := sumL_bd (l.drop i) (fun x hx => h2 x (List.mem_of_mem_drop hx))
  rw [List.length_drop] at this
  omega
theorem deg_rd {l : List Int} (h : DegB l = true) (i : Nat) (hi : i < l.length) : 0 ≤ rd l (i : Int) ∧ rd l (i : Int) ≤ 16 := by
  rw [rd_get l i hi]
  exact (DegB_iff h).2 _ (List.getElem_mem _)
/-- The excess of degrees. -/
def Exc (l : List Int) : Int := (l.length : Int) - sumL l

theorem cyExcess_ev (l : List Int) (h : DegB l = true) : Ev (fun k => spec_cyExcess.f k l) (Exc l) := by
  have hl := (DegB_iff h).1
  have key : ∀ (d i : Nat) (x : Int), i + d = l.length → -1000 ≤ x - sumL (l.drop i) ∧ x ≤ 1000 → Ev (fun k => spec_cyExcess.l0 k x l (l.length : Int) (i : Int)) (x - sumL (l.drop i)) := by
    intro d
    induction d with
    | zero =>
      intro i x hi hx
      refine Ev.s ?_
      have c : ¬ ((i : Int) < (l.length : Int)) := by omega
      simp only [spec_cyExcess.l0, if_neg c]
      rw [List.drop_of_length_le (by omega)]
      exact Ev.c (by simp [sumL])
    | succ d ih =>
      intro i x hi hx
      have hr := deg_rd h i (by omega)
      have h0 := deg_drop h (i + 1)
      rw [drop_rd l i (by omega), sumL] at hx ⊢
      refine Ev.s ?_
      have c1 : ((i : Int) < (l.length : Int)) := by omega
      have c2 : (0 : Int) ≤ (i : Int) := by omega
      have e := wsucc i l.length (by omega) (by omega)
      have e2 : wrap64 (x - rd l (i : Int)) = x - rd l (i : Int) := w64 (by omega) (by omega)
      simp only [spec_cyExcess.l0, if_pos c1, if_pos c2, e, e2]
      exact Ev.e (ih (i + 1) (x - rd l (i : Int)) (by omega) (by omega)) (by omega)
  unfold spec_cyExcess.f Exc
  have h0 := deg_drop h 0
  have := key l.length 0 (l.length : Int) (by omega) (by omega)
  rwa [List.drop_zero] at this

def C : Nat → Nat → Nat
  | _, 0 => 1
  | 0, _ + 1 => 0
  | n + 1, k + 1 => C n k + C n (k + 1)
theorem C_zero (n : Nat) : C n 0 = 1 := by cases n <;> rfl
theorem C_zs (k : Nat) : C 0 (k + 1) = 0 := rfl
theorem C_ss (n k : Nat) : C (n + 1) (k + 1) = C n k + C n (k + 1) := rfl
theorem C_lt : ∀ (n k : Nat), n < k → C n k = 0
  | 0, k + 1, _ => rfl
  | n + 1, k + 1, h => by rw [C_ss, C_lt n k (by omega), C_lt n (k + 1) (by omega)]
theorem C_self : ∀ n : Nat, C n n = 1
  | 0 => rfl
  | n + 1 => by rw [C_ss, C_self n, C_lt n (n + 1) (by omega)]
theorem C_pos : ∀ (n k : Nat), k ≤ n → 1 ≤ C n k
  | n, 0, _ => by rw [C_zero]; omega
  | n + 1, k + 1, h => by rw [C_ss]; have := C_pos n k (by omega); omega
theorem C_absorb : ∀ (n k : Nat), C (n + 1) (k + 1) * (k + 1) = (n + 1) * C n k
  | 0, 0 => rfl
  | 0, k + 1 => by rw [C_lt 1 (k + 2) (by omega), C_lt 0 (k + 1) (by omega)]; omega
  | n + 1, 0 => by
    have h := C_absorb n 0
    rw [C_ss, C_zero] ; rw [C_zero] at h; omega
  | n + 1, k + 1 => by
    have h1 := C_absorb n k
    have h2 := C_absorb n (k + 1)
    rw [C_ss (n + 1) (k + 1)]
    rw [C_ss n k] at h1 ⊢
    grind
theorem C_step (n k : Nat) (h : k ≤ n) : C n (k + 1) * (k + 1) = C n k * (n - k) := by
  have h1 := C_absorb n k
  rw [C_ss] at h1
  obtain ⟨d, rfl⟩ : ∃ d, n = k + d := ⟨n - k, by omega⟩
  rw [Nat.add_sub_cancel_left]
  grind
theorem C_symm : ∀ (n k : Nat), k ≤ n → C n (n - k) = C n k
  | 0, 0, _ => rfl
  | n + 1, 0, _ => by rw [Nat.sub_zero, C_self, C_zero]
  | n + 1, k + 1, h => by
    by_cases e : k = n
    · subst e; rw [Nat.sub_self, C_zero, C_self]
    · have h1 := C_symm n k (by omega)
      have h2 := C_symm n (k + 1) (by omega)
      have e1 : n + 1 - (k + 1) = (n - (k + 1)) + 1 := by omega
      rw [e1, C_ss, C_ss, h2]
      have e2 : n - (k + 1) + 1 = n - k := by omega
      rw [e2, h1]; omega
theorem C_le : ∀ (n k : Nat), C n k ≤ 2 ^ n
  | n, 0 => by rw [C_zero]; exact Nat.one_le_two_pow
  | 0, k + 1 => by rw [C_zs]; omega
  | n + 1, k + 1 => by
    rw [C_ss, Nat.pow_succ]
    cases n with
    | zero => cases k with
      | zero => decide
      | succ k => simp [C]
    | succ m =>
      have h1 := C_le (m+1) k
      have h2 := C_le (m+1) (k + 1)
      omega
theorem C_le40 (n k : Nat) (h : n ≤ 40) : C n k ≤ 1099511627776 := by
  have h1 := C_le n k
  have h2 : 2 ^ n ≤ 2 ^ 40 := Nat.pow_le_pow_right (by omega) h
  omega

/-- The factorial. -/
def fc : Nat → Nat
  | 0 => 1
  | n + 1 => (n + 1) * fc n
theorem fc_pos : ∀ n : Nat, 1 ≤ fc n
  | 0 => Nat.le_refl _
  | n + 1 => by
    have := fc_pos n
    have h := Nat.mul_le_mul (show 1 ≤ n + 1 from by omega) this
    unfold fc; omega
theorem fc_mono (n d : Nat) : fc n ≤ fc (n + d) := by
  induction d with
  | zero => exact Nat.le_refl _
  | succ d ih =>
    have h := Nat.mul_le_mul (show 1 ≤ n + d + 1 from by omega) (Nat.le_refl (fc (n + d)))
    have e : fc (n + d + 1) = (n + d + 1) * fc (n + d) := rfl
    rw [← Nat.add_assoc, e]
    omega
theorem fc_16 (n : Nat) (h : n ≤ 16) : fc n ≤ 20922789888000 := by
  have := fc_mono n (16 - n)
  rw [show n + (16 - n) = 16 from by omega] at this
  have e : fc 16 = 20922789888000 := by decide +kernel
  omega
theorem C_fact : ∀ (n k : Nat), k ≤ n → C n k * (fc k * fc (n - k)) = fc n
  | n, 0, _ => by
    rw [C_zero, Nat.sub_zero]
    show 1 * (1 * fc n) = fc n
    omega
  | n + 1, k + 1, h => by
    have ih := C_fact n k (by omega)
    have ab := C_absorb n k
    rw [show n + 1 - (k + 1) = n - k from by omega]
    show C (n + 1) (k + 1) * ((k + 1) * fc k * fc (n - k)) = (n + 1) * fc n
    rw [← ih]
    calc C (n + 1) (k + 1) * ((k + 1) * fc k * fc (n - k)) = (C (n + 1) (k + 1) * (k + 1)) * (fc k * fc (n - k)) := by grind
      _ = (n + 1) * (C n k * (fc k * fc (n - k))) := by rw [ab]; grind

/-- The sum of numbers. -/
def sN : List Nat → Nat
  | [] => 0
  | x :: r => x + sN r
/-- The product of their factorials. -/
def fL : List Nat → Nat
  | [] => 1
  | x :: r => fc x * fL r
theorem fL_pos : ∀ l : List Nat, 1 ≤ fL l
  | [] => Nat.le_refl _
  | x :: r => by
    have := Nat.mul_le_mul (fc_pos x) (fL_pos r)
    unfold fL; omega
/-- Choices, from the front. -/
def oP : Nat → Nat → List Nat → Nat
  | p, _, [] => p
  | p, n, x :: r => oP (p * C (n + x) x) (n + x) r
/-- Choices, out of what is left. -/
def oW : Nat → Nat → List Nat → Nat
  | p, _, [] => p
  | p, n, x :: r => oW (p * C n x) (n - x) r
theorem oP_fact : ∀ (l : List Nat) (p n A : Nat), p * A = fc n → oP p n l * (A * fL l) = fc (n + sN l)
  | [], p, n, A, h => by
    show p * (A * 1) = fc (n + 0)
    rw [Nat.mul_one, Nat.add_zero]; exact h
  | x :: r, p, n, A, h => by
    have ih := oP_fact r (p * C (n + x) x) (n + x) (A * fc x) (by
      have := C_fact (n + x) x (by omega)
      rw [Nat.add_sub_cancel] at this
      rw [← this, ← h]
      grind)
    show oP (p * C (n + x) x) (n + x) r * (A * (fc x * fL r)) = fc (n + (x + sN r))
    rw [← Nat.mul_assoc A, ih, Nat.add_assoc]
theorem oW_fact : ∀ (l : List Nat) (p n A N : Nat), sN l ≤ n → p * A * fc n = N → oW p n l * (A * fL l) * fc (n - sN l) = N
  | [], p, n, A, N, _, h => by
    show p * (A * 1) * fc (n - 0) = N
    rw [Nat.mul_one, Nat.sub_zero]; exact h
  | x :: r, p, n, A, N, hs, h => by
    unfold sN at hs
    have ih := oW_fact r (p * C n x) (n - x) (A * fc x) N (by omega) (by
      have := C_fact n x (by omega)
      rw [← h, ← this]
      grind)
    show oW (p * C n x) (n - x) r * (A * (fc x * fL r)) * fc (n - (x + sN r)) = N
    rw [← Nat.mul_assoc A, show n - (x + sN r) = n - x - sN r from by omega]
    exact ih
theorem o_same (l : List Nat) : oP 1 0 l = oW 1 (sN l) l := by
  have h1 := oP_fact l 1 0 1 rfl
  have h2 := oW_fact l 1 (sN l) 1 (fc (sN l)) (Nat.le_refl _) (by omega)
  rw [Nat.sub_self, show fc 0 = 1 from rfl, Nat.mul_one] at h2
  rw [Nat.zero_add] at h1
  rw [Nat.one_mul] at h1 h2
  have hp := fL_pos l
  exact Nat.eq_of_mul_eq_mul_right (by omega) (h1.trans h2.symm)
/-- Numbers as Go has them. -/
def LI (l : List Nat) : List Int := l.map (fun x : Nat => (x : Int))
theorem LI_len (l : List Nat) : (LI l).length = l.length := by unfold LI; simp
theorem LI_rd (l : List Nat) (i : Nat) (h : i < l.length) : rd (LI l) (i : Int) = (l[i] : Int) := by
  rw [rd_get _ _ (by rw [LI_len]; exact h)]
  unfold LI
  simp
theorem dropN (l : List Nat) (i : Nat) (h : i < l.length) : l.drop i = l[i] :: l.drop (i + 1) := List.drop_eq_getElem_cons h
theorem LI_of (l : List Int) (h : ∀ x ∈ l, 0 ≤ x ∧ x ≤ 16) : ∃ m : List Nat, l = LI m ∧ ∀ x ∈ m, x ≤ 16 := by
  refine ⟨l.map Int.toNat, ?_, ?_⟩
  · unfold LI
    rw [List.map_map]
    conv => lhs; rw [← List.map_id l]
    apply List.map_congr_left
    intro x hx
    have := h x hx
    show x = ((x.toNat : Nat) : Int)
    omega
  · intro x hx
    obtain ⟨y, hy, rfl⟩ := List.mem_map.1 hx
    have := h y hy
    omega
/-- The sum of places times numbers. -/
def wN : Nat → List Nat → Nat
  | _, [] => 0
  | i, x :: r => i * x + wN (i + 1) r
/-- Each place as often as its number says. -/
def exL : Nat → List Nat → List Int
  | _, [] => []
  | i, x :: r => List.replicate x (i : Int) ++ exL (i + 1) r
theorem exL_len : ∀ (l : List Nat) (i : Nat), (exL i l).length = sN l
  | [], _ => rfl
  | x :: r, i => by simp only [exL, List.length_append, List.length_replicate, exL_len r, sN]
theorem sumL_rep (n : Nat) (x : Int) : sumL (List.replicate n x) = n * x := by
  induction n with
  | zero => simp [sumL]
  | succ n ih =>
    rw [List.replicate_succ, sumL, ih, Int.natCast_succ, Int.add_mul]
    omega
theorem exL_sum : ∀ (l : List Nat) (i : Nat), sumL (exL i l) = (wN i l : Int)
  | [], _ => rfl
  | x :: r, i => by
    simp only [exL, wN]
    rw [sumL_append, sumL_rep, exL_sum r, Int.natCast_add, Int.natCast_mul, Int.mul_comm]
theorem exL_mem : ∀ (l : List Nat) (i : Nat) (y : Int), y ∈ exL i l → (i : Int) ≤ y ∧ y < (i : Int) + l.length
  | x :: r, i, y, h => by
    simp only [exL, List.mem_append, List.mem_replicate] at h
    rw [List.length_cons]
    rcases h with h | h
    · omega
    · have := exL_mem r (i + 1) y h
      omega
theorem wN_le : ∀ (l : List Nat) (i B : Nat), i + l.length ≤ B + 1 → wN i l ≤ B * sN l
  | [], _, _, _ => by simp [wN, sN]
  | x :: r, i, B, h => by
    rw [List.length_cons] at h
    have ih := wN_le r (i + 1) B (by omega)
    have := Nat.mul_le_mul (show i ≤ B from by omega) (Nat.le_refl x)
    simp only [wN, sN, Nat.mul_add]
    omega
theorem sN_drop (l : List Nat) (i : Nat) (h : i < l.length) : sN (l.drop i) = l[i] + sN (l.drop (i + 1)) := by rw [dropN l i h]; rfl

theorem wnat (n : Nat) (h : n ≤ 9223372036854775807) : wrap64 (n : Int) = (n : Int) := w64 (by omega) (by omega)

/-- What nodesOf comes to. -/
theorem nodesOf_ev (l : List Int) (hn : l.length ≤ 35184372088832) : ∃ a b : Int, ∃ c : Bool, Ev (fun k => impl_nodesOf.f k l) (a, b, c) ∧
    ((l.length ≤ 17 ∧ l.all (fun x => decide (0 ≤ x ∧ x ≤ 16)) = true → ∀ m : List Nat, l = LI m → a = (sN m : Int) ∧ b = (sN m : Int) - (wN 0 m : Int) ∧ c = decide (1 ≤ sN m ∧ sN m ≤ 16)) ∧
     (¬ (l.length ≤ 17 ∧ l.all (fun x => decide (0 ≤ x ∧ x ≤ 16)) = true) → c = false)) := by
  unfold impl_nodesOf.f
  by_cases h17 : (l.length : Int) > 17
  · refine ⟨0, 0, false, by simp only [if_pos h17]; exact Ev.now _, fun h => by omega, fun _ => rfl⟩
  simp only [if_neg h17]
  by_cases hall : l.all (fun x => decide (0 ≤ x ∧ x ≤ 16)) = true
  · obtain ⟨m, rfl, hm⟩ := LI_of l (fun x hx => by
      have := List.all_eq_true.1 hall x hx
      exact of_decide_eq_true this)
    rw [LI_len] at h17
    refine ⟨(sN m : Int), (sN m : Int) - (wN 0 m : Int), decide (1 ≤ sN m ∧ sN m ≤ 16), ?_, fun _ m' e => ?_, fun h => absurd ⟨by rw [LI_len]; omega, hall⟩ h⟩
    · have bd : ∀ (d i : Nat), i + d = m.length → sN (m.drop i) ≤ 16 * d := by
        intro d
        induction d with
        | zero => intro i hi; rw [List.drop_of_length_le (by omega)]; simp [sN]
        | succ d ih =>
          intro i hi
          have := ih (i + 1) (by omega)
          have h2 := hm m[i] (List.getElem_mem _)
          rw [sN_drop m i (by omega)]
          omega
      have key : ∀ (d i a b : Nat), i + d = m.length → a + sN (m.drop i) = sN m → a ≤ 16 * i → b ≤ 272 * i → Ev (fun k => impl_nodesOf.l0 k (a : Int) (b : Int) (LI m) ((LI m).length : Int) (i : Int)) ((sN m : Int), (sN m : Int) - ((b + wN i (m.drop i) : Nat) : Int), decide (1 ≤ sN m ∧ sN m ≤ 16)) := by
        intro d
        induction d with
        | zero =>
          intro i a b hi ha ha' hb
          refine Ev.s ?_
          have c : ¬ ((i : Int) < ((LI m).length : Int)) := by rw [LI_len]; omega
          rw [List.drop_of_length_le (by omega)] at ha ⊢
          have ha2 : a = sN m := by rw [show sN [] = 0 from rfl] at ha; omega
          have w : wrap64 ((a : Int) - (b : Int)) = (a : Int) - (b : Int) := w64 (by omega) (by omega)
          simp only [impl_nodesOf.l0, if_neg c, in_eq, Option.bind_some, w]
          subst ha2
          refine Ev.c ?_
          have e1 : decide ((1 : Int) ≤ (sN m : Int) ∧ (sN m : Int) ≤ 16) = decide (1 ≤ sN m ∧ sN m ≤ 16) := by
            rw [decide_eq_decide]; omega
          rw [e1]
          rfl
        | succ d ih =>
          intro i a b hi ha ha' hb
          refine Ev.s ?_
          have hsd := sN_drop m i (by omega)
          have h2 := hm m[i] (List.getElem_mem _)
          have c1 : ((i : Int) < ((LI m).length : Int)) := by rw [LI_len]; omega
          have c2 : (0 : Int) ≤ (i : Int) := by omega
          have hr := LI_rd m i (by omega)
          have hix : i * m[i] ≤ 17 * 16 := Nat.mul_le_mul (by omega) h2
          have c3 : (0 : Int) ≤ ((m[i] : Nat) : Int) ∧ ((m[i] : Nat) : Int) ≤ 16 := by omega
          have ba : a + m[i] ≤ 9223372036854775807 := by omega
          have bb : b + i * m[i] ≤ 9223372036854775807 := by omega
          have hx := ih (i + 1) (a + m[i]) (b + i * m[i]) (by omega) (by omega) (by omega) (by omega)
          have w1 : wrap64 ((a : Int) + ((m[i] : Nat) : Int)) = ((a + m[i] : Nat) : Int) := by rw [← Int.natCast_add]; exact wnat _ ba
          have w2 : wrap64 ((i : Int) * ((m[i] : Nat) : Int)) = ((i * m[i] : Nat) : Int) := by rw [← Int.natCast_mul]; exact wnat _ (by omega)
          have w3 : wrap64 ((b : Int) + ((i * m[i] : Nat) : Int)) = ((b + i * m[i] : Nat) : Int) := by rw [← Int.natCast_add]; exact wnat _ bb
          have e := wsucc i m.length (by omega) (by omega)
          simp only [impl_nodesOf.l0, if_pos c1, if_pos c2, hr, in_eq, Option.bind_some, decide_eq_true c3, if_true, w1, w2, w3, e]
          rw [dropN m i (by omega)]
          have e2 : b + i * m[i] + wN (i + 1) (m.drop (i + 1)) = b + wN i (m[i] :: m.drop (i + 1)) := by simp only [wN, Nat.add_assoc]
          rw [e2] at hx
          exact hx
      have := key m.length 0 0 0 (by omega) (by simp) (by omega) (by omega)
      simp only [Nat.zero_add, List.drop_zero] at this
      exact this
    · have : m' = m := by
        have : (LI m').map Int.toNat = (LI m).map Int.toNat := by rw [e]
        unfold LI at this
        rw [List.map_map, List.map_map] at this
        have z : (Int.toNat ∘ fun x : Nat => (x : Int)) = id := by funext x; simp
        rw [z, List.map_id, List.map_id] at this
        exact this
      subst this
      exact ⟨rfl, rfl, rfl⟩
  · have hx : ∃ i : Nat, i < l.length ∧ ¬ (0 ≤ rd l (i : Int) ∧ rd l (i : Int) ≤ 16) := by
      rw [List.all_eq_true] at hall
      simp only [Classical.not_forall] at hall
      obtain ⟨x, hx, hn⟩ := hall
      obtain ⟨i, hi, rfl⟩ := List.mem_iff_getElem.1 hx
      refine ⟨i, hi, ?_⟩
      rw [rd_get l i hi]
      simpa using hn
    have key : ∀ (d i : Nat) (a b : Int), i + d = l.length → (∃ j : Nat, i ≤ j ∧ j < l.length ∧ ¬ (0 ≤ rd l (j : Int) ∧ rd l (j : Int) ≤ 16)) → Ev (fun k => impl_nodesOf.l0 k a b l (l.length : Int) (i : Int)) (0, 0, false) := by
      intro d
      induction d with
      | zero =>
        intro i a b hi hj
        obtain ⟨j, h1, h2, _⟩ := hj
        omega
      | succ d ih =>
        intro i a b hi hj
        refine Ev.s ?_
        have c1 : ((i : Int) < (l.length : Int)) := by omega
        have c2 : (0 : Int) ≤ (i : Int) := by omega
        have e := wsucc i l.length (by omega) (by omega)
        by_cases g : 0 ≤ rd l (i : Int) ∧ rd l (i : Int) ≤ 16
        · simp only [impl_nodesOf.l0, if_pos c1, if_pos c2, in_eq, Option.bind_some, decide_eq_true g, if_true, e]
          refine ih (i + 1) _ _ (by omega) ?_
          obtain ⟨j, h1, h2, h3⟩ := hj
          refine ⟨j, ?_, h2, h3⟩
          by_cases z : j = i
          · subst z; exact absurd g h3
          · omega
        · simp only [impl_nodesOf.l0, if_pos c1, if_pos c2, in_eq, Option.bind_some, decide_eq_false g, Bool.false_eq_true, if_false]
          exact Ev.now _
    obtain ⟨i, hi, hx⟩ := hx
    refine ⟨0, 0, false, ?_, fun h => absurd h.2 hall, fun _ => rfl⟩
    exact key l.length 0 0 0 (by omega) ⟨i, by omega, hi, hx⟩

/-- What cyCounts comes to, for numbers that are in range. -/
theorem cyCounts_ev (m : List Nat) (hl : m.length ≤ 17) (hm : ∀ x ∈ m, x ≤ 16) : Ev (fun k => spec_cyCounts.f k (LI m)) (if 1 ≤ sN m ∧ sN m ≤ 16 then (exL 0 m, true) else ([], false)) := by
  have hall : (LI m).all (fun x => decide (0 ≤ x ∧ x ≤ 16)) = true := by
    rw [List.all_eq_true]
    intro y hy
    obtain ⟨x, hx, rfl⟩ := List.mem_map.1 hy
    have := hm x hx
    exact decide_eq_true (by omega)
  unfold spec_cyCounts.f
  have h17 : ¬ (((LI m).length : Int) > 17) := by rw [LI_len]; omega
  simp only [if_neg h17]
  refine Ev.bs (l1All_ev 0 16 (LI m) (by rw [LI_len]; omega)) ?_
  rw [hall]
  refine Ev.s ?_
  simp only [spec_cyCounts.j0, Bool.not_true, Bool.false_eq_true, if_false]
  have inner : ∀ (i x : Nat) (a : List Int) (R : List Int × Bool), a.length + x ≤ 40 → Ev (fun k => if ((a ++ List.replicate x (i : Int)).length : Int) > 16 then some (([] : List Int), false) else spec_cyCounts.l0 k (a ++ List.replicate x (i : Int)) (LI m) ((LI m).length : Int) (wrap64 ((i : Int) + 1))) R → Ev (fun k => spec_cyCounts.l1 k a (i : Int) (x : Int) (LI m) ((LI m).length : Int) (i : Int)) R := by
    intro i x
    induction x with
    | zero =>
      intro a R ha h
      refine Ev.s ?_
      have c : ¬ (((0 : Nat) : Int) > 0) := by omega
      simp only [spec_cyCounts.l1, if_neg c]
      rwa [List.replicate_zero, List.append_nil] at h
    | succ x ih =>
      intro a R ha h
      refine Ev.s ?_
      have c : (((x + 1 : Nat) : Int) > 0) := by omega
      have c2 : a.length < 17592186044416 := by omega
      have w : wrap64 (((x + 1 : Nat) : Int) - 1) = (x : Int) := by rw [w64 (by omega) (by omega)]; omega
      simp only [spec_cyCounts.l1, if_pos c, if_pos c2, w]
      refine ih _ _ (by simp only [List.length_append, List.length_singleton]; omega) ?_
      rwa [List.append_assoc, show [(i : Int)] ++ List.replicate x (i : Int) = List.replicate (x + 1) (i : Int) from rfl]
  have key : ∀ (d i : Nat) (a : List Int), i + d = m.length → a.length ≤ 16 → Ev (fun k => spec_cyCounts.l0 k a (LI m) ((LI m).length : Int) (i : Int)) (if a.length + sN (m.drop i) ≤ 16 then (a ++ exL i (m.drop i), decide (1 ≤ a.length + sN (m.drop i))) else ([], false)) := by
    intro d
    induction d with
    | zero =>
      intro i a hi ha
      refine Ev.s ?_
      have c : ¬ ((i : Int) < ((LI m).length : Int)) := by rw [LI_len]; omega
      simp only [spec_cyCounts.l0, if_neg c]
      rw [List.drop_of_length_le (by omega)]
      refine Ev.c ?_
      rw [show sN [] = 0 from rfl, Nat.add_zero, if_pos ha, show exL i [] = [] from rfl, List.append_nil]
      have e : decide ((a.length : Int) > 0) = decide (1 ≤ a.length) := by rw [decide_eq_decide]; omega
      rw [e]
    | succ d ih =>
      intro i a hi ha
      refine Ev.s ?_
      have h2 := hm m[i] (List.getElem_mem _)
      have c1 : ((i : Int) < ((LI m).length : Int)) := by rw [LI_len]; omega
      have c2 : (0 : Int) ≤ (i : Int) := by omega
      have hr := LI_rd m i (by omega)
      have e := wsucc i m.length (by omega) (by omega)
      simp only [spec_cyCounts.l0, if_pos c1, if_pos c2, hr]
      refine inner i m[i] a _ (by omega) ?_
      rw [dropN m i (by omega), e]
      have hlen : (a ++ List.replicate m[i] (i : Int)).length = a.length + m[i] := by rw [List.length_append, List.length_replicate]
      by_cases g : a.length + m[i] ≤ 16
      · have g1 : ¬ (((a ++ List.replicate m[i] (i : Int)).length : Int) > 16) := by rw [hlen]; omega
        simp only [if_neg g1]
        have := ih (i + 1) (a ++ List.replicate m[i] (i : Int)) (by omega) (by omega)
        rw [hlen, List.append_assoc, Nat.add_assoc] at this
        exact this
      · have g1 : ((a ++ List.replicate m[i] (i : Int)).length : Int) > 16 := by rw [hlen]; omega
        have g2 : ¬ (a.length + sN (m[i] :: m.drop (i + 1)) ≤ 16) := by
          rw [show sN (m[i] :: m.drop (i + 1)) = m[i] + sN (m.drop (i + 1)) from rfl]; omega
        simp only [if_pos g1, if_neg g2]
        exact Ev.now _
  have := key m.length 0 [] (by omega) (by simp)
  rw [List.drop_zero, List.nil_append, List.length_nil, Nat.zero_add] at this
  refine Ev.e this ?_
  by_cases g : sN m ≤ 16
  · by_cases g2 : 1 ≤ sN m
    · rw [if_pos g, if_pos ⟨g2, g⟩, decide_eq_true g2]
    · have hz : exL 0 m = [] := List.eq_nil_of_length_eq_zero (by rw [exL_len]; omega)
      rw [if_pos g, if_neg (fun h => g2 h.1), decide_eq_false g2, hz]
  · rw [if_neg g, if_neg (fun h => g h.2)]
theorem cyCounts_no (l : List Int) (hn : l.length ≤ 35184372088832) (h : ¬ (l.length ≤ 17 ∧ l.all (fun x => decide (0 ≤ x ∧ x ≤ 16)) = true)) : Ev (fun k => spec_cyCounts.f k l) ([], false) := by
  unfold spec_cyCounts.f
  by_cases h17 : (l.length : Int) > 17
  · simp only [if_pos h17]
    refine Ev.s ?_
    simp only [spec_cyCounts.j0, if_true]
    exact Ev.now _
  · simp only [if_neg h17]
    refine Ev.bs (l1All_ev 0 16 l hn) ?_
    have : l.all (fun x => decide (0 ≤ x ∧ x ≤ 16)) = false := by
      cases hb : l.all (fun x => decide (0 ≤ x ∧ x ≤ 16)) with
      | true => exact absurd ⟨by omega, hb⟩ h
      | false => rfl
    rw [this]
    refine Ev.s ?_
    simp only [spec_cyCounts.j0, Bool.not_false, if_true]
    exact Ev.now _

theorem cyExcess_ex (m : List Nat) (hl : m.length ≤ 17) (hs : 1 ≤ sN m ∧ sN m ≤ 16) : Ev (fun k => spec_cyExcess.f k (exL 0 m)) ((sN m : Int) - (wN 0 m : Int)) := by
  have hd : DegB (exL 0 m) = true := by
    unfold DegB
    rw [exL_len, decide_eq_true hs, Bool.true_and, List.all_eq_true]
    intro y hy
    have := exL_mem m 0 y hy
    exact decide_eq_true (by omega)
  have := cyExcess_ev (exL 0 m) hd
  unfold Exc at this
  rwa [exL_len, exL_sum] at this

/-- k, k + 1, .. -/
def upL : Int → Nat → List Int
  | _, 0 => []
  | k, n + 1 => k :: upL (k + 1) n
theorem upL_len : ∀ (n : Nat) (k : Int), (upL k n).length = n
  | 0, _ => rfl
  | n + 1, k => by simp only [upL, List.length_cons, upL_len n]
theorem upL_snoc : ∀ (n : Nat) (k : Int), upL k (n + 1) = upL k n ++ [k + n]
  | 0, k => by simp [upL]
  | n + 1, k => by
    rw [upL, upL_snoc n (k + 1), upL, List.cons_append, Int.natCast_succ, show k + 1 + (n : Int) = k + ((n : Int) + 1) from by omega]
theorem upL_rd : ∀ (n i : Nat) (k : Int), i < n → rd (upL k n) (i : Int) = k + i
  | n + 1, 0, k, _ => by simp [upL, rd_cons_zero]
  | n + 1, i + 1, k, h => by
    rw [upL, rd_cons_succ, upL_rd n i (k + 1) (by omega), Int.natCast_succ]; omega
theorem markIntS_ev (l : List Int) (hl : l.length ≤ 2000000) : Ev (fun k => laws_markIntS.f k l 1) (1 + (l.length : Int), upL 1 l.length) := by
  have key : ∀ (d i : Nat) (m : List Int), i + d = l.length → m.length = l.length → m.take i = upL 1 i → Ev (fun k => laws_markIntS.l0 k m (1 + (i : Int)) (i : Int)) (1 + (l.length : Int), upL 1 l.length) := by
    intro d
    induction d with
    | zero =>
      intro i m hi hm ht
      refine Ev.s ?_
      have c : ¬ ((i : Int) < (m.length : Int)) := by omega
      simp only [laws_markIntS.l0, if_neg c]
      rw [List.take_of_length_le (by omega)] at ht
      rw [ht, show i = l.length from by omega]
      exact Ev.now _
    | succ d ih =>
      intro i m hi hm ht
      refine Ev.s ?_
      have c1 : ((i : Int) < (m.length : Int)) := by omega
      have c2 : (0 : Int) ≤ (i : Int) := by omega
      have e := wsucc i l.length (by omega) (by omega)
      have e2 : wrap64 (1 + (i : Int) + 1) = 1 + ((i + 1 : Nat) : Int) := by rw [w64 (by omega) (by omega)]; omega
      simp only [laws_markIntS.l0, if_pos c1, if_pos c2, e, e2, Int.toNat_natCast]
      refine ih (i + 1) _ (by omega) (by simpa using hm) ?_
      rw [List.take_succ_eq_append_getElem (by simp; omega), List.take_set_of_le (by omega), ht, upL_snoc]
      simp
  have := key l.length 0 l (by omega) rfl rfl
  exact this
theorem heldIntS_ev (n : Nat) (hn : n ≤ 2000000) : Ev (fun k => laws_heldIntS.f k (upL 1 n) 1) (1 + (n : Int)) := by
  have key : ∀ (d i : Nat), i + d = n → Ev (fun k => laws_heldIntS.l0 k (upL 1 n) (1 + (i : Int)) (i : Int)) (1 + (n : Int)) := by
    intro d
    induction d with
    | zero =>
      intro i hi
      refine Ev.s ?_
      have c : ¬ ((i : Int) < ((upL 1 n).length : Int)) := by rw [upL_len]; omega
      simp only [laws_heldIntS.l0, if_neg c]
      rw [show i = n from by omega]
      exact Ev.now _
    | succ d ih =>
      intro i hi
      refine Ev.s ?_
      have c1 : ((i : Int) < ((upL 1 n).length : Int)) := by rw [upL_len]; omega
      have c2 : (0 : Int) ≤ (i : Int) := by omega
      have c3 := upL_rd n i 1 (by omega)
      have e := wsucc i n (by omega) (by omega)
      have e2 : wrap64 (1 + (i : Int) + 1) = 1 + ((i + 1 : Nat) : Int) := by rw [w64 (by omega) (by omega)]; omega
      simp only [laws_heldIntS.l0, if_pos c1, if_pos c2, c3, if_true, e, e2]
      exact ih (i + 1) (by omega)
  have := key n 0 (by omega)
  exact this

theorem FirstForest_frame (l : List Int) (hl : l.length ≤ 2000000) (v : List Int) (b : Bool) (hv : v.length ≤ 2000000) (e1 : Ev (fun k => spec_FirstForest.f k l) (v, b)) (e2 : Ev (fun k => impl_FirstForest.f k l) (v, b)) :
    Ev (fun k => laws_FnExactFirstForest.f k l) true := by
  unfold laws_FnExactFirstForest.f
  by_cases h : (l.length : Int) > 1048576
  · simp only [if_pos h]; exact Ev.now _
  simp only [if_neg h]
  have ht := toIntS_ev l (by omega)
  have hh := heldIntS_ev v.length hv
  refine Ev.bs ht (Ev.bs e1 (Ev.bs ht (Ev.bs e2 (Ev.bs (eqIntS_ev v v (by omega)) ?_))))
  simp only [decide_true, if_true, bne_self_eq_false]
  refine Ev.s ?_
  simp only [laws_FnExactFirstForest.j0, Bool.false_eq_true, if_false]
  have c1 : ¬ (1 + (v.length : Int) < 0) := by omega
  have c2 : ¬ (1 + (l.length : Int) < 0) := by omega
  refine Ev.bs ht (Ev.bs (eqIntS_ev l l (by omega)) ?_)
  simp only [decide_true, if_true]
  refine Ev.bs (markIntS_ev l hl) ?_
  simp only [if_neg c2]
  refine Ev.bs (eqIntS_ev v v (by omega)) ?_
  simp only [decide_true, if_true, bne_self_eq_false]
  refine Ev.s ?_
  simp only [laws_FnExactFirstForest.j1, Bool.false_eq_true, if_false]
  refine Ev.bs (markIntS_ev v hv) (Ev.bs hh ?_)
  simp only [if_neg c1, if_true]
  refine Ev.bs ht (Ev.bs e2 (Ev.bs (eqIntS_ev v v (by omega)) ?_))
  simp only [decide_true, if_true, bne_self_eq_false]
  refine Ev.s ?_
  simp only [laws_FnExactFirstForest.j2, Bool.false_eq_true, if_false]
  refine Ev.bs hh ?_
  simp only [if_neg c1, if_true]
  exact Ev.now _
theorem FirstForest_far (l : List Int) (h : (l.length : Int) > 1048576) : Ev (fun k => laws_FnExactFirstForest.f k l) true := by
  unfold laws_FnExactFirstForest.f
  simp only [if_pos h]; exact Ev.now _

theorem sN_set : ∀ (l : List Nat) (d : Nat) (h : d < l.length), 1 ≤ l[d] → sN (l.set d (l[d] - 1)) + 1 = sN l
  | x :: r, 0, _, hx => by
    simp only [List.getElem_cons_zero] at hx
    simp only [List.set_cons_zero, sN, List.getElem_cons_zero]; omega
  | x :: r, d + 1, h, hx => by
    simp only [List.getElem_cons_succ] at hx
    have := sN_set r d (by simpa using h) hx
    simp only [List.set_cons_succ, sN, List.getElem_cons_succ]; omega
theorem wN_set : ∀ (l : List Nat) (d i : Nat) (h : d < l.length), 1 ≤ l[d] → wN i (l.set d (l[d] - 1)) + (i + d) = wN i l
  | x :: r, 0, i, _, hx => by
    simp only [List.getElem_cons_zero] at hx
    simp only [List.set_cons_zero, wN, List.getElem_cons_zero]
    have : i * (x - 1) + i = i * x := by rw [← Nat.mul_succ]; congr 1; omega
    omega
  | x :: r, d + 1, i, h, hx => by
    simp only [List.getElem_cons_succ] at hx
    have := wN_set r d (i + 1) (by simpa using h) hx
    simp only [List.set_cons_succ, wN, List.getElem_cons_succ]; omega
theorem sN_some : ∀ (l : List Nat), 1 ≤ sN l → ∃ d, ∃ h : d < l.length, 1 ≤ l[d]
  | x :: r, hs => by
    by_cases c : 1 ≤ x
    · exact ⟨0, by simp, c⟩
    · simp only [sN] at hs
      obtain ⟨d, h, hd⟩ := sN_some r (by omega)
      exact ⟨d + 1, by simpa using h, hd⟩
theorem wN_some : ∀ (l : List Nat) (i : Nat), 1 ≤ wN i l → ∃ d, ∃ h : d < l.length, 1 ≤ l[d] ∧ 1 ≤ i + d
  | x :: r, i, hs => by
    by_cases c : 1 ≤ i * x
    · by_cases cx : x = 0
      · rw [cx] at c; omega
      · by_cases ci : i = 0
        · rw [ci] at c; omega
        · exact ⟨0, by simp, by simp only [List.getElem_cons_zero]; omega, by omega⟩
    · simp only [wN] at hs
      obtain ⟨d, h, hd, hi⟩ := wN_some r (i + 1) (by omega)
      exact ⟨d + 1, by simpa using h, hd, by omega⟩
theorem LI_set (l : List Nat) (d : Nat) (v : Nat) : (LI l).set d (v : Int) = LI (l.set d v) := by
  unfold LI
  rw [List.map_set]
/-- May the place be taken? -/
def FP (r s : Int) (m : Nat) (l : List Nat) (j : Nat) : Prop := (∃ h : j < l.length, 1 ≤ l[j]) ∧ (s + (j : Int) - 1 > -r ∨ m = 1)
theorem FP_least (r s : Int) (m : Nat) (l : List Nat) (h : ∃ j, FP r s m l j) : ∃ d, FP r s m l d ∧ ∀ j, j < d → ¬ FP r s m l j := by
  obtain ⟨j, hj⟩ := h
  induction j using Nat.strongRecOn with
  | _ j ih =>
    by_cases c : ∃ i, i < j ∧ FP r s m l i
    · obtain ⟨i, hi, hp⟩ := c
      exact ih i hi hp
    · exact ⟨j, hj, fun i hi hp => c ⟨i, hi, hp⟩⟩
theorem FP_ex (r s : Int) (m : Nat) (l : List Nat) (hm : 1 ≤ m) (hs : sN l = m) (hw : s + (wN 0 l : Int) - (m : Int) = -r) (hsr : s > -r) : ∃ j, FP r s m l j := by
  by_cases c : m = 1
  · obtain ⟨d, h, hd⟩ := sN_some l (by omega)
    exact ⟨d, ⟨h, hd⟩, .inr c⟩
  · by_cases c2 : 1 ≤ wN 0 l
    · obtain ⟨d, h, hd, hi⟩ := wN_some l 0 c2
      exact ⟨d, ⟨h, hd⟩, .inl (by omega)⟩
    · obtain ⟨d, h, hd⟩ := sN_some l (by omega)
      exact ⟨d, ⟨h, hd⟩, .inl (by omega)⟩
theorem wq (s : Int) (j : Nat) (hs : -1000 ≤ s ∧ s ≤ 1000) (hj : j ≤ 100) : wrap64 (wrap64 (s + (j : Int)) - 1) = s + (j : Int) - 1 ∧ wrap64 (s + wrap64 ((j : Int) - 1)) = s + (j : Int) - 1 := by
  have e1 : wrap64 (s + (j : Int)) = s + (j : Int) := w64 (by omega) (by omega)
  have e2 : wrap64 ((j : Int) - 1) = (j : Int) - 1 := w64 (by omega) (by omega)
  rw [e1, e2]
  clear e1 e2
  exact ⟨w64 (by omega) (by omega), by rw [w64 (by omega) (by omega)]; omega⟩
theorem wneg (r : Int) (h : -1000 ≤ r ∧ r ≤ 1000) : wrap64 (-r) = -r := w64 (by omega) (by omega)
theorem wpred (n : Nat) (h1 : 1 ≤ n) (h : n ≤ 1000) : wrap64 ((n : Int) - 1) = ((n - 1 : Nat) : Int) := by rw [w64 (by omega) (by omega)]; omega
theorem spec_l1 (r s : Int) (m : Nat) (l : List Nat) (out : List Int) (hr : 1 ≤ r ∧ r ≤ 16) (hs : -1000 ≤ s ∧ s ≤ 1000) (hl : l.length ≤ 17) (ho : out.length ≤ 100) (hm : 1 ≤ m ∧ m ≤ 16) (hle : ∀ x ∈ l, x ≤ 16)
    (d : Nat) (hd : d < l.length) (hp : FP r s m l d) (hnp : ∀ j, j < d → ¬ FP r s m l j) (R : List Int × Bool)
    (hR : Ev (fun k => spec_FirstForest.l0 k r (LI (l.set d (l[d] - 1))) (out ++ [(d : Int)]) (s + (d : Int) - 1) ((m - 1 : Nat) : Int)) R) :
    ∀ (e i : Nat), i + e = d → Ev (fun k => spec_FirstForest.l1 k r (LI l) out s (m : Int) ((LI l).length : Int) (i : Int)) R := by
  intro e
  induction e with
  | zero =>
    intro i hi
    obtain rfl : i = d := by omega
    have c1 : (i : Int) < ((LI l).length : Int) := by rw [LI_len]; omega
    have c2 : (0 : Int) ≤ (i : Int) := by omega
    have hrd := LI_rd l i hd
    have hg : 1 ≤ l[i] := hp.1.2
    have c3 : ((l[i] : Nat) : Int) > 0 := by omega
    have c4 : out.length < 17592186044416 := by omega
    have hset : (LI l).set i ((l[i] - 1 : Nat) : Int) = LI (l.set i (l[i] - 1)) := LI_set _ _ _
    have hw : ((l[i] : Nat) : Int) - 1 = ((l[i] - 1 : Nat) : Int) := by omega
    have hb := hle l[i] (List.getElem_mem _)
    obtain ⟨q1, q2⟩ := wq s i hs (by omega)
    have q3 := wneg r (by omega)
    have q4 := wpred m hm.1 (by omega)
    refine Ev.s ?_
    have q5 := wpred l[i] hg (by clear q1 q2 q3 q4; omega)
    by_cases g : s + (i : Int) - 1 > -r
    · simp only [spec_FirstForest.l1, if_pos c1, if_pos c2, hrd, if_pos c3, q1, q3, if_pos g, if_pos c4, q2, q4, q5, Int.toNat_natCast, hset]
      exact hR
    · have g2 : (m : Int) = 1 := by
        rcases hp.2 with h | h
        · exact absurd h g
        · omega
      simp only [spec_FirstForest.l1, if_pos c1, if_pos c2, hrd, if_pos c3, q1, q3, if_neg g, if_pos g2, if_pos c4, q2, q4, q5, Int.toNat_natCast, hset]
      exact hR
  | succ e ih =>
    intro i hi
    have hnp' := hnp i (by omega)
    have hid : i < l.length := by omega
    have c1 : (i : Int) < ((LI l).length : Int) := by rw [LI_len]; omega
    have c2 : (0 : Int) ≤ (i : Int) := by omega
    have hrd := LI_rd l i hid
    obtain ⟨q1, q2⟩ := wq s i hs (by omega)
    have q3 := wneg r (by omega)
    have w := wsucc i 17 (by omega) (by omega)
    have hx := ih (i + 1) (by clear q1 q2 q3 w; omega)
    refine Ev.s ?_
    by_cases c3 : ((l[i] : Nat) : Int) > 0
    · have g : ¬ (s + (i : Int) - 1 > -r) := fun h => hnp' ⟨⟨hid, by clear q1 q2 q3 w; omega⟩, .inl h⟩
      have g2 : ¬ ((m : Int) = 1) := fun h => hnp' ⟨⟨hid, by clear q1 q2 q3 w; omega⟩, .inr (by clear q1 q2 q3 w; omega)⟩
      simp only [spec_FirstForest.l1, if_pos c1, if_pos c2, hrd, if_pos c3, q1, q3, if_neg g, if_neg g2, w]
      exact hx
    · simp only [spec_FirstForest.l1, if_pos c1, if_pos c2, hrd, if_neg c3, w]
      exact hx
theorem impl_l1 (r s : Int) (m : Nat) (l : List Nat) (out : List Int) (hr : 1 ≤ r ∧ r ≤ 16) (hs : -1000 ≤ s ∧ s ≤ 1000) (hl : l.length ≤ 17) (ho : out.length ≤ 100) (hm : 1 ≤ m ∧ m ≤ 16) (N : Nat) (hN : out.length + m = N ∧ N ≤ 16) (hle : ∀ x ∈ l, x ≤ 16)
    (d : Nat) (hd : d < l.length) (hp : FP r s m l d) (hnp : ∀ j, j < d → ¬ FP r s m l j) (R : List Int × Bool)
    (hR : Ev (fun k => impl_FirstForest.l0 k (N : Int) r (out ++ [(d : Int)]) (s + (d : Int) - 1) (LI (l.set d (l[d] - 1)))) R) :
    ∀ (e i : Nat), i + e = d → Ev (fun k => impl_FirstForest.l1 k (N : Int) r out s (LI l) ((LI l).length : Int) (i : Int)) R := by
  intro e
  induction e with
  | zero =>
    intro i hi
    obtain rfl : i = d := by omega
    have c1 : (i : Int) < ((LI l).length : Int) := by rw [LI_len]; omega
    have c2 : (0 : Int) ≤ (i : Int) := by omega
    have hrd := LI_rd l i hd
    have hg : 1 ≤ l[i] := hp.1.2
    have c3 : ((l[i] : Nat) : Int) > 0 := by omega
    have c4 : out.length < 17592186044416 := by omega
    have hset : (LI l).set i ((l[i] - 1 : Nat) : Int) = LI (l.set i (l[i] - 1)) := LI_set _ _ _
    have hw : ((l[i] : Nat) : Int) - 1 = ((l[i] - 1 : Nat) : Int) := by omega
    have hb := hle l[i] (List.getElem_mem _)
    obtain ⟨q1, q2⟩ := wq s i hs (by omega)
    have q3 := wneg r (by omega)
    have q4 := wpred N (by omega) (by omega)
    refine Ev.s ?_
    have q5 := wpred l[i] hg (by clear q1 q2 q3 q4; omega)
    by_cases g : s + (i : Int) - 1 > -r
    · simp only [impl_FirstForest.l1, if_pos c1, if_pos c2, hrd, if_pos c3, q1, q3, if_pos g, if_pos c4, q5, Int.toNat_natCast, hset]
      exact hR
    · have g2 : (out.length : Int) = ((N - 1 : Nat) : Int) := by
        rcases hp.2 with h | h
        · exact absurd h g
        · clear q1 q2 q3 q4 q5; omega
      simp only [impl_FirstForest.l1, if_pos c1, if_pos c2, hrd, if_pos c3, q1, q3, if_neg g, q4, if_pos g2, if_pos c4, q5, Int.toNat_natCast, hset]
      exact hR
  | succ e ih =>
    intro i hi
    have hnp' := hnp i (by omega)
    have hid : i < l.length := by omega
    have c1 : (i : Int) < ((LI l).length : Int) := by rw [LI_len]; omega
    have c2 : (0 : Int) ≤ (i : Int) := by omega
    have hrd := LI_rd l i hid
    obtain ⟨q1, q2⟩ := wq s i hs (by omega)
    have q3 := wneg r (by omega)
    have q4 := wpred N (by clear q1 q2 q3; omega) (by clear q1 q2 q3; omega)
    have w := wsucc i 17 (by omega) (by omega)
    have hx := ih (i + 1) (by clear q1 q2 q3 q4 w; omega)
    refine Ev.s ?_
    by_cases c3 : ((l[i] : Nat) : Int) > 0
    · have g : ¬ (s + (i : Int) - 1 > -r) := fun h => hnp' ⟨⟨hid, by clear q1 q2 q3 q4 w; omega⟩, .inl h⟩
      have g2 : ¬ ((out.length : Int) = ((N - 1 : Nat) : Int)) := fun h => hnp' ⟨⟨hid, by clear q1 q2 q3 q4 w; omega⟩, .inr (by clear q1 q2 q3 q4 w; omega)⟩
      simp only [impl_FirstForest.l1, if_pos c1, if_pos c2, hrd, if_pos c3, q1, q3, if_neg g, q4, if_neg g2, w]
      exact hx
    · simp only [impl_FirstForest.l1, if_pos c1, if_pos c2, hrd, if_neg c3, w]
      exact hx

theorem first_both (r : Int) (hr : 1 ≤ r ∧ r ≤ 16) (N : Nat) (hN : N ≤ 16) : ∀ (m : Nat) (s : Int) (l : List Nat) (out : List Int), l.length ≤ 17 → (∀ x ∈ l, x ≤ 16) → out.length + m = N → sN l = m → s + (wN 0 l : Int) - (m : Int) = -r → (s > -r ∨ m = 0) →
    ∃ v : List Int, v.length = N ∧ Ev (fun k => spec_FirstForest.l0 k r (LI l) out s (m : Int)) (v, true) ∧ Ev (fun k => impl_FirstForest.l0 k (N : Int) r out s (LI l)) (v, true) := by
  intro m
  induction m with
  | zero =>
    intro s l out hl hle hon hs hw hsr
    refine ⟨out, by omega, Ev.s ?_, Ev.s ?_⟩
    · have c : ¬ (((0 : Nat) : Int) > 0) := by omega
      simp only [spec_FirstForest.l0, if_neg c]
      exact Ev.now _
    · have c : ¬ ((out.length : Int) < (N : Int)) := by omega
      simp only [impl_FirstForest.l0, if_neg c]
      exact Ev.now _
  | succ m ih =>
    intro s l out hl hle hon hs hw hsr
    have hsr' : s > -r := by
      rcases hsr with h | h
      · exact h
      · omega
    have hwb := wN_le l 0 16 (by omega)
    obtain ⟨d, hp, hnp⟩ := FP_least r s (m + 1) l (FP_ex r s (m + 1) l (by omega) hs hw hsr')
    obtain ⟨⟨hd, hd1⟩, hp2⟩ := hp
    have h1 := sN_set l d hd hd1
    have h2 := wN_set l d 0 hd hd1
    have hsb : -1000 ≤ s ∧ s ≤ 1000 := by rw [hs] at hwb; omega
    obtain ⟨v, hv, e1, e2⟩ := ih (s + (d : Int) - 1) (l.set d (l[d] - 1)) (out ++ [(d : Int)]) (by rw [List.length_set]; exact hl)
      (fun x hx => by
        rcases List.mem_or_eq_of_mem_set hx with hx | hx
        · exact hle x hx
        · have := hle l[d] (List.getElem_mem _); omega)
      (by rw [List.length_append, List.length_singleton]; omega) (by omega) (by omega) (by
        rcases hp2 with h | h
        · exact .inl h
        · exact .inr (by omega))
    refine ⟨v, hv, Ev.s ?_, Ev.s ?_⟩
    · have c : ((m + 1 : Nat) : Int) > 0 := by omega
      simp only [spec_FirstForest.l0, if_pos c]
      exact spec_l1 r s (m + 1) l out hr hsb hl (by omega) (by omega) hle d hd ⟨⟨hd, hd1⟩, hp2⟩ hnp _ e1 d 0 (by omega)
    · have c : (out.length : Int) < (N : Int) := by omega
      simp only [impl_FirstForest.l0, if_pos c]
      exact impl_l1 r s (m + 1) l out hr hsb hl (by omega) (by omega) N (by omega) hle d hd ⟨⟨hd, hd1⟩, hp2⟩ hnp _ e2 d 0 (by omega)
theorem FnExactFirstForest : laws_FnExactFirstForest.Pure := by
  intro l _ _ _
  refine Ev.rounds ?_
  by_cases hbig : (l.length : Int) > 1048576
  · exact FirstForest_far l hbig
  have hn : l.length ≤ 35184372088832 := by omega
  have specNo : ∀ c, Ev (fun k => spec_FirstForest.j0 k l c true) ([], false) := fun c => by
    refine Ev.s ?_
    simp only [spec_FirstForest.j0, if_true]
    exact Ev.now _
  have implNo : ∀ a b, Ev (fun k => impl_FirstForest.j0 k l a b true) ([], false) := fun a b => by
    refine Ev.s ?_
    simp only [impl_FirstForest.j0, if_true]
    exact Ev.now _
  by_cases g : l.length ≤ 17 ∧ l.all (fun x => decide (0 ≤ x ∧ x ≤ 16)) = true
  · obtain ⟨a, b, c, hev, hyes, _⟩ := nodesOf_ev l hn
    obtain ⟨m, rfl, hm⟩ := LI_of l (fun x hx => of_decide_eq_true (List.all_eq_true.1 g.2 x hx))
    obtain ⟨rfl, rfl, rfl⟩ := hyes g m rfl
    rw [LI_len] at g
    by_cases hs : 1 ≤ sN m ∧ sN m ≤ 16
    · have hcy := cyCounts_ev m g.1 hm
      rw [if_pos hs] at hcy
      have hex := cyExcess_ex m g.1 hs
      rw [decide_eq_true hs] at hev
      by_cases hx : (sN m : Int) - (wN 0 m : Int) < 1
      · refine FirstForest_frame (LI m) (by omega) [] false (by simp) ?_ ?_
        · unfold spec_FirstForest.f
          refine Ev.bs hcy ?_
          simp only [if_true]
          refine Ev.bs hex ?_
          rw [decide_eq_true hx]
          exact specNo _
        · unfold impl_FirstForest.f
          refine Ev.bs hev ?_
          simp only [if_true]
          rw [decide_eq_true hx]
          exact implNo _ _
      · obtain ⟨v, hv, e1, e2⟩ := first_both ((sN m : Int) - (wN 0 m : Int)) (by omega) (sN m) hs.2 (sN m) 0 m [] g.1 hm (by simp) rfl (by omega) (.inl (by omega))
        refine FirstForest_frame (LI m) (by omega) v true (by omega) ?_ ?_
        · unfold spec_FirstForest.f
          refine Ev.bs hcy ?_
          simp only [if_true]
          refine Ev.bs hex ?_
          rw [decide_eq_false hx]
          refine Ev.s ?_
          simp only [spec_FirstForest.j0, Bool.false_eq_true, if_false]
          refine Ev.bs hex ?_
          have c : ([] : List Int).length + (LI m).length < 17592186044416 := by rw [List.length_nil, LI_len]; omega
          simp only [spec_l1Own.f, Option.bind_some, if_pos c, List.nil_append, exL_len]
          exact e1
        · unfold impl_FirstForest.f
          refine Ev.bs hev ?_
          simp only [if_true]
          rw [decide_eq_false hx]
          refine Ev.s ?_
          have c : (LI m).length < 17592186044416 := by rw [LI_len]; omega
          simp only [impl_FirstForest.j0, Bool.false_eq_true, if_false, slices_Clone_int_int.f, if_pos c, Option.bind_some]
          exact e2
    · have hcy := cyCounts_ev m g.1 hm
      rw [if_neg hs] at hcy
      rw [decide_eq_false hs] at hev
      refine FirstForest_frame (LI m) (by omega) [] false (by simp) ?_ ?_
      · unfold spec_FirstForest.f
        refine Ev.bs hcy ?_
        simp only [Bool.false_eq_true, if_false]
        exact specNo _
      · unfold impl_FirstForest.f
        refine Ev.bs hev ?_
        simp only [Bool.false_eq_true, if_false]
        exact implNo _ _
  · obtain ⟨a, b, c, hev, _, hno⟩ := nodesOf_ev l hn
    rw [hno g] at hev
    refine FirstForest_frame l (by omega) [] false (by simp) ?_ ?_
    · unfold spec_FirstForest.f
      refine Ev.bs (cyCounts_no l hn g) ?_
      simp only [Bool.false_eq_true, if_false]
      exact specNo _
    · unfold impl_FirstForest.f
      refine Ev.bs hev ?_
      simp only [Bool.false_eq_true, if_false]
      exact implNo _ _

end Go.Proofs.Ytblofikjcmjaeaa.Pure
