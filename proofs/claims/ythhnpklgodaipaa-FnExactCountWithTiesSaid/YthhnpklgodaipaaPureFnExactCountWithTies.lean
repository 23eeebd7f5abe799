/- The plain law of the statement FnExactCountWithTies: what the program's function computes is what the reference's computes, for all arguments; no condition. -/
import Derived.Test.YthhnpklgodaipaaPFnExactCountWithTiesx3
namespace Go.Proofs.Ythhnpklgodaipaa.Pure
open Go.RowKit Go.Proofs.Ythhnpklgodaipaa.PFnExactCountWithTies Go.Proofs.YthhnpklgodaipaaW.PrintWords Go.Proofs.YthhnpklgodaipaaW.PrintLast Go.Proofs.YthhnpklgodaipaaW.PrintMore

def C : Nat → Nat → Nat
  | _, 0 => 1
  | 0, _ + 1 => 0
  | n + 1, k + 1 => C n k + C n (k + 1)
theorem C_zero (n : Nat) : C n 0 = 1 := by cases n <;> rfl
theorem C_zs (k : Nat) : C 0 (k + 1) = 0 := rfl
theorem C_ss (n k : Nat) : C (n + 1) (k + 1) = C n k + C n (k + 1) := rfl
theorem C_lt : ∀ (n k : Nat), n < k → C n k = 0
  | 0, k + 1, _ => rfl
  | n + 1, k + 1, h => by rw [C_ss, C_lt n k (by omega), C_lt n (k + 1) (by omega)]
theorem C_self : ∀ n : Nat, C n n = 1
  | 0 => rfl
  | n + 1 => by rw [C_ss, C_self n, C_lt n (n + 1) (by omega)]
theorem C_pos : ∀ (n k : Nat), k ≤ n → 1 ≤ C n k
  | n, 0, _ => by rw [C_zero]; omega
  | n + 1, k + 1, h => by rw [C_ss]; have := C_pos n k (by omega); omega
theorem C_absorb : ∀ (n k : Nat), C (n + 1) (k + 1) * (k + 1) = (n + 1) * C n k
  | 0, 0 => rfl
  | 0, k + 1 => by rw [C_lt 1 (k + 2) (by omega), C_lt 0 (k + 1) (by omega)]; omega
  | n + 1, 0 => by
    have h := C_absorb n 0
    rw [C_ss, C_zero] ; rw [C_zero] at h; omega
  | n + 1, k + 1 => by
    have h1 := C_absorb n k
    have h2 := C_absorb n (k + 1)
    rw [C_ss (n + 1) (k + 1)]
    rw [C_ss n k] at h1 ⊢
    grind
theorem C_step (n k : Nat) (h : k ≤ n) : C n (k + 1) * (k + 1) = C n k * (n - k) := by
  have h1 := C_absorb n k
  rw [C_ss] at h1
  obtain ⟨d, rfl⟩ : ∃ d, n = k + d := ⟨n - k, by omega⟩
  rw [Nat.add_sub_cancel_left]
  grind
theorem C_symm : ∀ (n k : Nat), k ≤ n → C n (n - k) = C n k
  | 0, 0, _ => rfl
  | n + 1, 0, _ => by rw [Nat.sub_zero, C_self, C_zero]
  | n + 1, k + 1, h => by
    by_cases e : k = n
    · subst e; rw [Nat.sub_self, C_zero, C_self]
    · have h1 := C_symm n k (by omega)
      have h2 := C_symm n (k + 1) (by omega)
      have e1 : n + 1 - (k + 1) = (n - (k + 1)) + 1 := by omega
      rw [e1, C_ss, C_ss, h2]
      have e2 : n - (k + 1) + 1 = n - k := by omega
      rw [e2, h1]; omega
theorem C_le : ∀ (n k : Nat), C n k ≤ 2 ^ n
  | n, 0 => by rw [C_zero]; exact Nat.one_le_two_pow
  | 0, k + 1 => by rw [C_zs]; omega
  | n + 1, k + 1 => by
    rw [C_ss, Nat.pow_succ]
    cases n with
    | zero => cases k with
      | zero => decide
      | succ k => simp [C]
    | succ m =>
      have h1 := C_le (m+1) k
      have h2 := C_le (m+1) (k + 1)
      omega
theorem C_le40 (n k : Nat) (h : n ≤ 40) : C n k ≤ 1099511627776 := by
  have h1 := C_le n k
  have h2 : 2 ^ n ≤ 2 ^ 40 := Nat.pow_le_pow_right (by omega) h
  omega

theorem Ev.s {α : Type} {g : Nat → Option α} {r : α} (h : Ev (fun k => g (k + 1)) r) : Ev g r := by
  obtain ⟨K, hK⟩ := h
  refine ⟨K + 1, fun k hk => ?_⟩
  obtain ⟨m, rfl⟩ : ∃ m, k = m + 1 := ⟨k - 1, by omega⟩
  exact hK m (by omega)
theorem Ev.c {α : Type} {o : Option α} {r : α} (h : o = some r) : Ev (fun _ => o) r := ⟨0, fun _ _ => h⟩
theorem Ev.u {α : Type} {g : Nat → Option α} {r r' : α} (h : Ev g r) (h' : Ev g r') : r = r' := by
  obtain ⟨K, hK⟩ := h
  obtain ⟨K', hK'⟩ := h'
  have a := hK (max K K') (by omega)
  have b := hK' (max K K') (by omega)
  rw [a] at b
  exact Option.some.inj b
theorem Ev.e {α : Type} {g : Nat → Option α} {r r' : α} (h : Ev g r) (e : r = r') : Ev g r' := e ▸ h
theorem Ev.bs {α β : Type} {g : Nat → Option α} {f : Nat → α → Option β} {a : α} {r : β} (h : Ev g a) (k : Ev (fun n => f n a) r) : Ev (fun n => Option.bind (g n) (f n)) r := Ev.bind h k
theorem w64 {n : Int} (h : -9223372036854775808 ≤ n) (h' : n ≤ 9223372036854775807) : wrap64 n = n := by unfold wrap64; omega
theorem rd_set (l : List Int) (i j : Int) (v : Int) (hi : 0 ≤ i) (hj : 0 ≤ j) (hl : i < (l.length : Int)) : rd (l.set i.toNat v) j = if i = j then v else rd l j := by
  unfold rd
  rw [List.getD_eq_getElem?_getD, List.getD_eq_getElem?_getD, List.getElem?_set]
  by_cases e : i = j
  · subst e; rw [if_pos rfl, if_pos rfl, if_pos (by omega)]; rfl
  · rw [if_neg (by omega), if_neg e]

theorem in_eq (a b c : Int) : impl_in.f a b c = some (decide (b ≤ a ∧ a ≤ c)) := by
  unfold impl_in.f
  by_cases h : b ≤ a
  · rw [if_pos h]; simp [h]
  · rw [if_neg h]; simp [h]
theorem l1In_eq (a b c : Int) : spec_l1In.f a b c = some (decide (b ≤ a ∧ a ≤ c)) := by
  unfold spec_l1In.f
  by_cases h : a ≥ b
  · rw [if_pos h]; simp [h]
  · rw [if_neg h]; simp [h]
theorem choose_l0 (n : Nat) (hn : n ≤ 40) (j : Nat) (hj : j ≤ n) (d : Nat) : ∀ i : Nat, i + d = j →
    Ev (fun k => impl_choose.l0 k (n : Int) (C n i : Int) (j : Int) (i : Int)) (C n j : Int) := by
  induction d with
  | zero =>
    intro i hi
    obtain rfl : i = j := by omega
    refine Ev.s ?_
    simp (disch := omega) only [impl_choose.l0, if_neg]
    exact Ev.now _
  | succ d ih =>
    intro i hi
    refine Ev.s ?_
    have hb := C_le40 n i hn
    have hs := C_step n i (by omega)
    have hm : C n i * (n - i) ≤ 1099511627776 * 40 := Nat.mul_le_mul hb (by omega)
    have e1 : wrap64 ((n : Int) - (i : Int)) = ((n - i : Nat) : Int) := by rw [w64 (by omega) (by omega)]; omega
    have e2 : wrap64 ((i : Int) + 1) = ((i + 1 : Nat) : Int) := by rw [w64 (by omega) (by omega)]; omega
    have e3 : wrap64 ((C n i : Int) * ((n - i : Nat) : Int)) = ((C n (i + 1) * (i + 1) : Nat) : Int) := by
      rw [hs, ← Int.natCast_mul, w64 (by omega) (by omega)]
    have e4 : Int.tdiv ((C n (i + 1) * (i + 1) : Nat) : Int) ((i + 1 : Nat) : Int) = (C n (i + 1) : Int) := by
      rw [Int.natCast_mul]; exact Int.mul_tdiv_cancel _ (by omega)
    have e5 : wrap64 (C n (i + 1) : Int) = (C n (i + 1) : Int) := by
      have := C_le40 n (i + 1) hn
      rw [w64 (by omega) (by omega)]
    have hz : ¬ (((i + 1 : Nat) : Int) = 0) := by omega
    have hlt : (i : Int) < (j : Int) := by omega
    simp only [impl_choose.l0, e1, e2, e3, e4, e5, if_neg hz, if_pos hlt]
    exact ih (i + 1) (by omega)
/-- What `choose` comes to. -/
def Cz (n j : Int) : Int := if 0 ≤ j ∧ j ≤ n then (C n.toNat j.toNat : Int) else 0
theorem Cz_nat (n j : Nat) : Cz (n : Int) (j : Int) = (C n j : Int) := by
  unfold Cz
  by_cases h : j ≤ n
  · rw [if_pos (by omega)]; simp
  · rw [if_neg (by omega), C_lt n j (by omega)]; rfl
theorem Cz_le (n j : Int) (hn : n ≤ 40) : 0 ≤ Cz n j ∧ Cz n j ≤ 1099511627776 := by
  unfold Cz
  split
  · have := C_le40 n.toNat j.toNat (by omega); omega
  · omega
theorem Cz_symm (a b : Int) (ha : 0 ≤ a) (hb : 0 ≤ b) : Cz (a + b) b = Cz (a + b) a := by
  unfold Cz
  rw [if_pos (by omega), if_pos (by omega)]
  have h := C_symm (a + b).toNat a.toNat (by omega)
  rw [show (a + b).toNat - a.toNat = b.toNat from by omega] at h
  rw [h]
theorem choose_ev (n j : Int) (hn : n ≤ 40) : Ev (fun k => impl_choose.f k n j) (Cz n j) := by
  unfold impl_choose.f
  simp only [in_eq, Option.bind_some, decide_eq_true_eq]
  by_cases h : 0 ≤ j ∧ j ≤ n
  · simp only [if_pos h]
    have e := choose_l0 n.toNat (by omega) j.toNat (by omega) j.toNat 0 (by omega)
    rw [C_zero] at e
    have hc : Cz n j = (C n.toNat j.toNat : Int) := by unfold Cz; rw [if_pos h]
    rw [hc]
    simpa [show max n 0 = n from by omega, show max j 0 = j from by omega] using e
  · simp only [if_neg h]
    have hc : Cz n j = 0 := by unfold Cz; rw [if_neg h]
    rw [hc]; exact Ev.now _

theorem l1Least_eq (a b : Int) : spec_l1Least.f a b = some (min a b) := by
  unfold spec_l1Least.f
  by_cases h : a < b
  · rw [if_pos h]; congr 1; omega
  · rw [if_neg h]; congr 1; omega
def PRow (J : Nat) (l : List Int) (i j : Nat) : Prop :=
  l.length = J + 1 ∧ ∀ t : Nat, t ≤ J → rd l (t : Int) = if j < t then (C (i + 1) t : Int) else (C i t : Int)
theorem pa_l1 (n J : Nat) (hn : n ≤ 40) (hJ : J ≤ 40) (i : Nat) (hi : i < n) (j : Nat) : ∀ (l : List Int), j ≤ J → PRow J l i j →
    ∃ l', PRow J l' i 0 ∧ ∀ r, Ev (fun k => spec_paChoose.l0 k (n : Int) (J : Int) l' ((i + 2 : Nat) : Int)) r → Ev (fun k => spec_paChoose.l1 k (n : Int) (J : Int) l ((i + 1 : Nat) : Int) (j : Int)) r := by
  induction j with
  | zero =>
    intro l _ hl
    refine ⟨l, hl, fun r h => ?_⟩
    refine Ev.s ?_
    have e : wrap64 (((i + 1 : Nat) : Int) + 1) = ((i + 2 : Nat) : Int) := by rw [w64 (by omega) (by omega)]; omega
    have hz : ¬ (((0 : Nat) : Int) > 0) := by omega
    simp only [spec_paChoose.l1, if_neg hz, e]
    exact h
  | succ j ih =>
    intro l hj hl
    obtain ⟨hlen, hl⟩ := hl
    have a1 := hl (j + 1) hj
    have a2 := hl j (by omega)
    rw [if_neg (by omega)] at a1 a2
    have b1 := C_le40 i (j + 1) (by omega)
    have b2 := C_le40 i j (by omega)
    have e1 : wrap64 (((j + 1 : Nat) : Int) - 1) = (j : Int) := by rw [w64 (by omega) (by omega)]; omega
    have e2 : wrap64 ((C i (j + 1) : Int) + (C i j : Int)) = (C (i + 1) (j + 1) : Int) := by rw [w64 (by omega) (by omega), C_ss]; omega
    obtain ⟨l', h', hr⟩ := ih (l.set ((j + 1 : Nat) : Int).toNat (C (i + 1) (j + 1) : Int)) (by omega) (by
      refine ⟨by simpa using hlen, fun t ht => ?_⟩
      rw [rd_set _ _ _ _ (by omega) (by omega) (by omega)]
      by_cases e : ((j + 1 : Nat) : Int) = (t : Int)
      · have : t = j + 1 := by omega
        subst this
        rw [if_pos rfl, if_pos (by omega)]
      · rw [if_neg e, hl t ht]
        by_cases c : j < t
        · rw [if_pos c, if_pos (by omega)]
        · rw [if_neg c, if_neg (by omega)])
    refine ⟨l', h', fun r h => ?_⟩
    refine Ev.s ?_
    have c1 : ((j + 1 : Nat) : Int) > 0 := by omega
    have c2 : (0 : Int) ≤ ((j + 1 : Nat) : Int) := by omega
    have c3 : ((j + 1 : Nat) : Int) < (l.length : Int) := by omega
    have c4 : (0 : Int) ≤ (j : Int) := by omega
    have c5 : (j : Int) < (l.length : Int) := by omega
    simp only [spec_paChoose.l1, e1, a1, a2, e2, if_pos c1, if_pos c2, if_pos c3, if_pos c4, if_pos c5]
    exact hr r h
theorem pa_l0 (n J : Nat) (hn : n ≤ 40) (hJ : J ≤ 40) (d : Nat) : ∀ (i : Nat) (l : List Int), i + d = n → PRow J l i J →
    Ev (fun k => spec_paChoose.l0 k (n : Int) (J : Int) l ((i + 1 : Nat) : Int)) (C n J : Int) := by
  induction d with
  | zero =>
    intro i l hi hl
    obtain rfl : i = n := by omega
    obtain ⟨hlen, hl⟩ := hl
    have a := hl J (Nat.le_refl _)
    rw [if_neg (by omega)] at a
    refine Ev.s ?_
    have c1 : ¬ (((i + 1 : Nat) : Int) ≤ (i : Int)) := by omega
    have c2 : (0 : Int) ≤ (J : Int) := by omega
    have c3 : (J : Int) < (l.length : Int) := by omega
    simp only [spec_paChoose.l0, if_neg c1, if_pos c2, if_pos c3, a]
    exact Ev.now _
  | succ d ih =>
    intro i l hi hl
    have hmin : min (((i + 1 : Nat) : Int)) (J : Int) = ((min (i + 1) J : Nat) : Int) := by omega
    have hl2 : PRow J l i (min (i + 1) J) := by
      refine ⟨hl.1, fun t ht => ?_⟩
      have := hl.2 t ht
      rw [if_neg (by omega)] at this
      by_cases c : min (i + 1) J < t
      · rw [if_pos c, this, C_lt i t (by omega), C_lt (i + 1) t (by omega)]
      · rw [if_neg c, this]
    obtain ⟨l', h', hr⟩ := pa_l1 n J hn hJ i (by omega) (min (i + 1) J) l (by omega) hl2
    refine Ev.s ?_
    have c1 : (((i + 1 : Nat) : Int) ≤ (n : Int)) := by omega
    simp only [spec_paChoose.l0, if_pos c1, l1Least_eq, Option.bind_some, hmin]
    refine hr _ (ih (i + 1) l' (by omega) ⟨h'.1, fun t ht => ?_⟩)
    have := h'.2 t ht
    rw [if_neg (by omega), this]
    by_cases c : 0 < t
    · rw [if_pos c]
    · rw [if_neg c]; obtain rfl : t = 0 := by omega
      rw [C_zero, C_zero]
theorem paChoose_ev (n j : Int) (hn : n ≤ 40) : Ev (fun k => spec_paChoose.f k n j) (Cz n j) := by
  unfold spec_paChoose.f
  by_cases h0 : j < 0
  · simp only [if_pos h0]
    refine Ev.s ?_
    simp only [spec_paChoose.j0, if_true]
    have : Cz n j = 0 := by unfold Cz; rw [if_neg (by omega)]
    rw [this]; exact Ev.now _
  · simp only [if_neg h0]
    refine Ev.s ?_
    by_cases h1 : j > n
    · simp only [spec_paChoose.j0, decide_eq_true h1, if_true]
      have : Cz n j = 0 := by unfold Cz; rw [if_neg (by omega)]
      rw [this]; exact Ev.now _
    · have e1 : wrap64 (j + 1) = j + 1 := by rw [w64 (by omega) (by omega)]
      obtain ⟨J, rfl⟩ : ∃ J : Nat, j = (J : Int) := ⟨j.toNat, by omega⟩
      obtain ⟨N, rfl⟩ : ∃ N : Nat, n = (N : Int) := ⟨n.toNat, by omega⟩
      have e2 : ((J : Int) + 1).toNat = J + 1 := by omega
      have c1 : (0 : Int) ≤ (J : Int) + 1 := by omega
      have c2 : J + 1 ≤ 35184372088832 := by omega
      have c3 : (0 : Int) < ((List.replicate (J + 1) (0 : Int)).length : Int) := by rw [List.length_replicate]; omega
      have hb : decide ((J : Int) > (N : Int)) = false := decide_eq_false h1
      simp only [spec_paChoose.j0, hb, e1, e2, if_pos c1, if_pos c2, Option.bind_some, if_pos c3, Bool.false_eq_true, if_false]
      rw [Cz_nat]
      refine pa_l0 N J (by omega) (by omega) N 0 _ (by omega) ⟨by simp, fun t ht => ?_⟩
      have h0 : ¬ (J < t) := by omega
      have hr : ∀ u : Nat, rd (List.replicate (J + 1) (0 : Int)) (u : Int) = 0 := by
        intro u
        unfold rd
        rw [List.getD_eq_getElem?_getD, List.getElem?_replicate]
        split <;> rfl
      rw [rd_set _ _ _ _ (by omega) (by omega) c3]
      simp only [if_neg h0]
      by_cases e : (0 : Int) = (t : Int)
      · obtain rfl : t = 0 := by omega
        simp [C_zero]
      · obtain ⟨s, rfl⟩ : ∃ s, t = s + 1 := ⟨t - 1, by omega⟩
        simp only [if_neg e, C_zs]
        exact hr _

theorem drop_rd (l : List Int) (i : Nat) (h : i < l.length) : l.drop i = rd l (i : Int) :: l.drop (i + 1) := by
  rw [List.drop_eq_getElem_cons h]
  unfold rd
  rw [Int.toNat_natCast, List.getD_eq_getElem?_getD, List.getElem?_eq_getElem h]
  rfl
theorem rd_get (l : List Int) (i : Nat) (h : i < l.length) : rd l (i : Int) = l[i] := by
  unfold rd
  rw [Int.toNat_natCast, List.getD_eq_getElem?_getD, List.getElem?_eq_getElem h]
  rfl
theorem wsucc (i n : Nat) (h : i < n) (hn : n ≤ 9223372036854775807) : wrap64 ((i : Int) + 1) = ((i + 1 : Nat) : Int) := by
  rw [w64 (by omega) (by omega)]; omega
theorem rd_cons_succ (x : Int) (l : List Int) (i : Nat) : rd (x :: l) ((i + 1 : Nat) : Int) = rd l (i : Int) := by
  unfold rd
  simp only [Int.toNat_natCast, List.getD_cons_succ]
theorem rd_cons_zero (x : Int) (l : List Int) : rd (x :: l) 0 = x := rfl

/-- The factorial. -/
def fc : Nat → Nat
  | 0 => 1
  | n + 1 => (n + 1) * fc n
theorem fc_pos : ∀ n : Nat, 1 ≤ fc n
  | 0 => Nat.le_refl _
  | n + 1 => by
    have := fc_pos n
    have h := Nat.mul_le_mul (show 1 ≤ n + 1 from by omega) this
    unfold fc; omega
theorem fc_mono (n d : Nat) : fc n ≤ fc (n + d) := by
  induction d with
  | zero => exact Nat.le_refl _
  | succ d ih =>
    have h := Nat.mul_le_mul (show 1 ≤ n + d + 1 from by omega) (Nat.le_refl (fc (n + d)))
    have e : fc (n + d + 1) = (n + d + 1) * fc (n + d) := rfl
    rw [← Nat.add_assoc, e]
    omega
theorem fc_16 (n : Nat) (h : n ≤ 16) : fc n ≤ 20922789888000 := by
  have := fc_mono n (16 - n)
  rw [show n + (16 - n) = 16 from by omega] at this
  have e : fc 16 = 20922789888000 := by decide +kernel
  omega
theorem C_fact : ∀ (n k : Nat), k ≤ n → C n k * (fc k * fc (n - k)) = fc n
  | n, 0, _ => by
    rw [C_zero, Nat.sub_zero]
    show 1 * (1 * fc n) = fc n
    omega
  | n + 1, k + 1, h => by
    have ih := C_fact n k (by omega)
    have ab := C_absorb n k
    rw [show n + 1 - (k + 1) = n - k from by omega]
    show C (n + 1) (k + 1) * ((k + 1) * fc k * fc (n - k)) = (n + 1) * fc n
    rw [← ih]
    calc C (n + 1) (k + 1) * ((k + 1) * fc k * fc (n - k)) = (C (n + 1) (k + 1) * (k + 1)) * (fc k * fc (n - k)) := by grind
      _ = (n + 1) * (C n k * (fc k * fc (n - k))) := by rw [ab]; grind

/-- Choices, by factorials. -/
def CQ (n k : Nat) : Nat := fc n / (fc k * fc (n - k))
theorem C_CQ (n k : Nat) (h : k ≤ n) : C n k = CQ n k := by
  unfold CQ
  have h1 := C_fact n k h
  have h2 := Nat.mul_le_mul (fc_pos k) (fc_pos (n - k))
  exact (Nat.div_eq_of_eq_mul_left (by omega) h1.symm).symm
/-- The closed form: so many ties, so many pairs. -/
def CF (t n : Nat) : Int :=
  if n = 0 ∨ t = 0 then (if n = t then 1 else 0) else
  if t > n then 0 else wrap64 ((2 : Int) ^ t * wrap64 (Int.tdiv (wrap64 ((t : Int) * (CQ (2 * n - t) n : Int))) ((2 * n - t : Nat) : Int)))
/-- The sum over the first part's lengths. -/
def PS (t i : Nat) : Nat → Int
  | 0 => 0
  | m + 1 => wrap64 (PS t i m + wrap64 (wrap64 (2 * wrap64 (Int.tdiv (CQ (2 * m) m : Int) ((m + 1 : Nat) : Int))) * CF t (i - (m + 1))))
theorem PS_all : ∀ t : Nat, t < 20 → ∀ i : Nat, i < 21 → PS t i i = CF (t + 1) i := by decide +kernel
theorem PS_CF (t i : Nat) (ht : t < 20) (hi : i < 21) : PS t i i = CF (t + 1) i := PS_all t ht i hi
theorem CF_0 (i : Nat) : CF 0 i = if i = 0 then 1 else 0 := by
  unfold CF
  rw [if_pos (.inr rfl)]
theorem CF_s0 (s : Nat) : CF s 0 = if s = 0 then 1 else 0 := by
  unfold CF
  rw [if_pos (.inl rfl)]
  by_cases h : s = 0
  · rw [if_pos h.symm, if_pos h]
  · rw [if_neg (fun e => h e.symm), if_neg h]

theorem rdL_set (xs : List (List Int)) (i j : Nat) (v : List Int) (h : i < xs.length) : rd_L1 (xs.set i v) (j : Int) = if i = j then v else rd_L1 xs (j : Int) := by
  unfold rd_L1
  rw [Int.toNat_natCast, List.getD_eq_getElem?_getD, List.getD_eq_getElem?_getD, List.getElem?_set]
  by_cases e : i = j
  · rw [if_pos e, if_pos e, if_pos (by omega)]; rfl
  · rw [if_neg e, if_neg e]
theorem rdn_set (l : List Int) (i j : Nat) (v : Int) (h : i < l.length) : rd (l.set i v) (j : Int) = if i = j then v else rd l (j : Int) := by
  have := rd_set l i j v (by omega) (by omega) (by omega)
  rw [Int.toNat_natCast] at this
  rw [this]
  by_cases e : i = j
  · rw [if_pos e, if_pos (by omega)]
  · rw [if_neg e, if_neg (by omega)]
/-- What the table holds. -/
def ST (n T : Nat) (F : Nat → Nat → Int) (w : List (List Int)) : Prop :=
  w.length = n + 1 ∧ ∀ i : Nat, i ≤ n → (rd_L1 w (i : Int)).length = T + 1 ∧ ∀ s : Nat, s ≤ T → rd (rd_L1 w (i : Int)) (s : Int) = F i s
theorem ST.eq {n T : Nat} {F G : Nat → Nat → Int} {w : List (List Int)} (h : ST n T F w) (e : ∀ i s, i ≤ n → s ≤ T → F i s = G i s) : ST n T G w :=
  ⟨h.1, fun i hi => ⟨(h.2 i hi).1, fun s hs => by rw [(h.2 i hi).2 s hs, e i s hi hs]⟩⟩
theorem ST.put {n T : Nat} {F : Nat → Nat → Int} {w : List (List Int)} (h : ST n T F w) (i t : Nat) (hi : i ≤ n) (ht : t ≤ T) (v : Int) :
    ST n T (fun i' s => if i' = i ∧ s = t then v else F i' s) (w.set i ((rd_L1 w (i : Int)).set t v)) := by
  refine ⟨by rw [List.length_set]; exact h.1, fun j hj => ?_⟩
  have hl := h.1
  have h1 := h.2 i hi
  have h2 := h.2 j hj
  rw [rdL_set w i j _ (by omega)]
  by_cases e : i = j
  · subst e
    rw [if_pos rfl]
    refine ⟨by rw [List.length_set]; exact h1.1, fun s hs => ?_⟩
    rw [rdn_set _ t s v (by omega), h1.2 s hs]
    show (if t = s then v else F i s) = if i = i ∧ s = t then v else F i s
    by_cases e2 : t = s
    · rw [if_pos e2, if_pos ⟨rfl, e2.symm⟩]
    · rw [if_neg e2, if_neg (fun x => e2 x.2.symm)]
  · rw [if_neg e]
    refine ⟨h2.1, fun s hs => ?_⟩
    rw [h2.2 s hs]
    exact (if_neg (fun x : j = i ∧ s = t => e x.1.symm)).symm
/-- Rows before i are done; in row i the columns before t. -/
def GG (i t : Nat) (i' s : Nat) : Int := if i' < i then CF s i' else if i' = i ∧ s < t then CF s i' else 0
/-- The same, with a part of the sum in column t. -/
def FF (i t : Nat) (p : Int) (i' s : Nat) : Int := if i' = i ∧ s = t then p else GG i t i' s
theorem w_sub (a b c : Nat) (h : a = b + c) (hb : a ≤ 1000) : wrap64 ((a : Int) - (b : Int)) = (c : Int) := by rw [w64 (by omega) (by omega)]; omega
theorem w_add1 (a : Nat) (hb : a ≤ 1000) : wrap64 ((a : Int) + 1) = ((a + 1 : Nat) : Int) := by rw [w64 (by omega) (by omega)]; omega
theorem w_two (m : Nat) (hb : m ≤ 100) : wrap64 (wrap64 (2 * ((m + 1 : Nat) : Int)) - 2) = ((2 * m : Nat) : Int) := by
  have : wrap64 (2 * ((m + 1 : Nat) : Int)) = ((2 * m + 2 : Nat) : Int) := by rw [w64 (by omega) (by omega)]; omega
  rw [this, w64 (by omega) (by omega)]; omega
theorem ties_l3 (n T : Nat) (hn : n ≤ 20) (hT : T ≤ 20) (R : Int × Bool) (i t : Nat) (hi : i + 1 ≤ n) (ht : t + 1 ≤ T)
    (hR : ∀ w, ST n T (FF (i + 1) (t + 1) (PS t (i + 1) (i + 1))) w → Ev (fun k => spec_CountWithTies.l2 k (n : Int) (T : Int) w ((i + 1 : Nat) : Int) ((t + 1 + 1 : Nat) : Int)) R) :
    ∀ (d m : Nat) (w : List (List Int)), m + d = i + 1 → ST n T (FF (i + 1) (t + 1) (PS t (i + 1) m)) w → Ev (fun k => spec_CountWithTies.l3 k (n : Int) (T : Int) w ((i + 1 : Nat) : Int) ((t + 1 : Nat) : Int) ((m + 1 : Nat) : Int)) R := by
  intro d
  induction d with
  | zero =>
    intro m w hm h
    refine Ev.s ?_
    have c : ¬ (((m + 1 : Nat) : Int) ≤ ((i + 1 : Nat) : Int)) := by omega
    simp only [spec_CountWithTies.l3, if_neg c, w_add1 (t + 1) (by omega)]
    have e : m = i + 1 := by omega
    rw [e] at h
    exact hR w h
  | succ d ih =>
    intro m w hm h
    have hl := h.1
    have h1 := h.2 (i + 1) hi
    have h2 := h.2 (i - m) (by omega)
    have hput := h.put (i + 1) (t + 1) hi ht (PS t (i + 1) (m + 1))
    have hnext := ih (m + 1) _ (by omega) (hput.eq (fun i' s _ _ => by
      unfold FF
      by_cases e : i' = i + 1 ∧ s = t + 1
      · rw [if_pos e, if_pos e]
      · rw [if_neg e, if_neg e, if_neg e]))
    have v1 : rd (rd_L1 w ((i + 1 : Nat) : Int)) ((t + 1 : Nat) : Int) = PS t (i + 1) m := by
      rw [h1.2 (t + 1) ht]; exact if_pos ⟨rfl, rfl⟩
    have v2 : rd (rd_L1 w ((i - m : Nat) : Int)) (t : Int) = CF t (i - m) := by
      rw [h2.2 t (by omega)]
      unfold FF GG
      rw [if_neg (by omega), if_pos (by omega)]
    have hps : wrap64 (PS t (i + 1) m + wrap64 (wrap64 (2 * wrap64 (Int.tdiv (CQ (2 * m) m : Int) ((m + 1 : Nat) : Int))) * CF t (i - m))) = PS t (i + 1) (m + 1) := by
      rw [show i - m = i + 1 - (m + 1) from by omega]
      rfl
    have hch := paChoose_ev ((2 * m : Nat) : Int) (m : Int) (by omega)
    rw [Cz_nat, C_CQ (2 * m) m (by omega)] at hch
    have c1 : ((m + 1 : Nat) : Int) ≤ ((i + 1 : Nat) : Int) := by omega
    have c2 : ¬ (((m + 1 : Nat) : Int) = 0) := by omega
    have c3 : (0 : Int) ≤ ((i + 1 : Nat) : Int) := by omega
    have c4 : ((i + 1 : Nat) : Int) < (w.length : Int) := by omega
    have c5 : (0 : Int) ≤ ((t + 1 : Nat) : Int) := by omega
    have c6 : ((t + 1 : Nat) : Int) < ((rd_L1 w ((i + 1 : Nat) : Int)).length : Int) := by omega
    have c7 : (0 : Int) ≤ ((i - m : Nat) : Int) := by omega
    have c8 : ((i - m : Nat) : Int) < (w.length : Int) := by omega
    have c9 : (0 : Int) ≤ (t : Int) := by omega
    have c10 : (t : Int) < ((rd_L1 w ((i - m : Nat) : Int)).length : Int) := by omega
    have e1 := w_two m (by omega)
    have e2 : wrap64 (((m + 1 : Nat) : Int) - 1) = (m : Int) := w_sub (m + 1) 1 m (by clear e1; omega) (by clear e1; omega)
    have e3 : wrap64 (((i + 1 : Nat) : Int) - ((m + 1 : Nat) : Int)) = ((i - m : Nat) : Int) := w_sub (i + 1) (m + 1) (i - m) (by clear e1 e2; omega) (by clear e1 e2; omega)
    have e4 : wrap64 (((t + 1 : Nat) : Int) - 1) = (t : Int) := w_sub (t + 1) 1 t (by clear e1 e2 e3; omega) (by clear e1 e2 e3; omega)
    have e5 := w_add1 (m + 1) (by clear e1 e2 e3 e4; omega)
    refine Ev.s ?_
    simp only [spec_CountWithTies.l3, if_pos c1, e1, e2]
    refine Ev.bs hch ?_
    simp only [if_neg c2, if_pos c3, if_pos c4, if_pos c5, if_pos c6, e3, if_pos c7, if_pos c8, e4, if_pos c9, if_pos c10, v1, v2, hps, Int.toNat_natCast, e5]
    exact hnext
theorem ties_l2 (n T : Nat) (hn : n ≤ 20) (hT : T ≤ 20) (R : Int × Bool) (i : Nat) (hi : i + 1 ≤ n)
    (hR : ∀ w, ST n T (GG (i + 1 + 1) 1) w → Ev (fun k => spec_CountWithTies.l1 k (n : Int) (T : Int) w ((i + 1 + 1 : Nat) : Int)) R) :
    ∀ (d t : Nat) (w : List (List Int)), t + d = T → ST n T (GG (i + 1) (t + 1)) w → Ev (fun k => spec_CountWithTies.l2 k (n : Int) (T : Int) w ((i + 1 : Nat) : Int) ((t + 1 : Nat) : Int)) R := by
  intro d
  induction d with
  | zero =>
    intro t w ht h
    refine Ev.s ?_
    have c : ¬ (((t + 1 : Nat) : Int) ≤ (T : Int)) := by omega
    simp only [spec_CountWithTies.l2, if_neg c, w_add1 (i + 1) (by omega)]
    refine hR w (h.eq (fun i' s hi' hs => ?_))
    unfold GG
    by_cases e1 : i' < i + 1
    · rw [if_pos e1, if_pos (by omega)]
    · rw [if_neg e1]
      by_cases e2 : i' = i + 1
      · rw [if_pos ⟨e2, by omega⟩, if_pos (by omega)]
      · rw [if_neg (fun x => e2 x.1), if_neg (by omega)]
        by_cases e3 : i' = i + 1 + 1 ∧ s < 1
        · rw [if_pos e3, show s = 0 from by omega, CF_0, if_neg (by omega)]
        · rw [if_neg e3]
  | succ d ih =>
    intro t w ht h
    refine Ev.s ?_
    have c : ((t + 1 : Nat) : Int) ≤ (T : Int) := by omega
    simp only [spec_CountWithTies.l2, if_pos c]
    refine ties_l3 n T hn hT R i t hi (by omega) (fun w' h' => ?_) (i + 1) 0 w (by omega) (h.eq (fun i' s hi' hs => ?_))
    · refine ih (t + 1) w' (by omega) (h'.eq (fun i' s hi' hs => ?_))
      rw [PS_CF t (i + 1) (by omega) (by omega)]
      unfold FF GG
      by_cases e : i' = i + 1 ∧ s = t + 1
      · rw [if_pos e, if_neg (by omega), if_pos (by omega), e.1, e.2]
      · rw [if_neg e]
        by_cases e1 : i' < i + 1
        · rw [if_pos e1, if_pos e1]
        · rw [if_neg e1, if_neg e1]
          by_cases e2 : i' = i + 1 ∧ s < t + 1
          · rw [if_pos e2, if_pos (by omega)]
          · rw [if_neg e2, if_neg (by omega)]
    · show GG (i + 1) (t + 1) i' s = FF (i + 1) (t + 1) 0 i' s
      unfold FF
      by_cases e : i' = i + 1 ∧ s = t + 1
      · rw [if_pos e]
        unfold GG
        rw [if_neg (by omega), if_neg (by omega)]
      · rw [if_neg e]
theorem ties_l1 (n T : Nat) (hn : n ≤ 20) (hT : T ≤ 20) : ∀ (d i : Nat) (w : List (List Int)), i + d = n → ST n T (GG (i + 1) 1) w → Ev (fun k => spec_CountWithTies.l1 k (n : Int) (T : Int) w ((i + 1 : Nat) : Int)) (CF T n, true) := by
  intro d
  induction d with
  | zero =>
    intro i w hi h
    refine Ev.s ?_
    have hl := h.1
    have h1 := h.2 n (Nat.le_refl _)
    have c : ¬ (((i + 1 : Nat) : Int) ≤ (n : Int)) := by omega
    have c1 : (0 : Int) ≤ (n : Int) := by omega
    have c2 : (n : Int) < (w.length : Int) := by omega
    have c3 : (0 : Int) ≤ (T : Int) := by omega
    have c4 : (T : Int) < ((rd_L1 w (n : Int)).length : Int) := by omega
    have v : rd (rd_L1 w (n : Int)) (T : Int) = CF T n := by
      rw [h1.2 T (Nat.le_refl _)]
      unfold GG
      rw [if_pos (by omega)]
    simp only [spec_CountWithTies.l1, if_neg c, if_pos c1, if_pos c2, if_pos c3, if_pos c4, v]
    exact Ev.now _
  | succ d ih =>
    intro i w hi h
    refine Ev.s ?_
    have c : ((i + 1 : Nat) : Int) ≤ (n : Int) := by omega
    simp only [spec_CountWithTies.l1, if_pos c]
    exact ties_l2 n T hn hT _ i (by omega) (fun w' h' => ih (i + 1) w' (by omega) h') T 0 w (by omega) h
theorem ties_l0 (n T : Nat) (hn : n ≤ 20) (hT : T ≤ 20) : ∀ (d i : Nat) (w : List (List Int)), i + d = n + 1 → w.length = n + 1 → (∀ j : Nat, j < i → rd_L1 w (j : Int) = List.replicate (T + 1) 0) →
    Ev (fun k => spec_CountWithTies.l0 k (n : Int) (T : Int) w ((n + 1 : Nat) : Int) (i : Int)) (CF T n, true) := by
  intro d
  induction d with
  | zero =>
    intro i w hi hl h
    refine Ev.s ?_
    have h0 := h 0 (by omega)
    have hz : rd_L1 w 0 = List.replicate (T + 1) 0 := h0
    have c : ¬ ((i : Int) < ((n + 1 : Nat) : Int)) := by omega
    have c1 : (0 : Int) < (w.length : Int) := by omega
    have c2 : (0 : Int) < ((rd_L1 w 0).length : Int) := by rw [hz, List.length_replicate]; omega
    simp only [spec_CountWithTies.l0, if_neg c, if_pos c1, if_pos c2]
    have hst : ST n T (fun _ _ => 0) w := ⟨hl, fun j hj => by
      rw [h j (by omega)]
      refine ⟨List.length_replicate, fun s hs => ?_⟩
      rw [rd_get _ s (by rw [List.length_replicate]; omega), List.getElem_replicate]⟩
    have hp := hst.put 0 0 (Nat.zero_le _) (Nat.zero_le _) 1
    have := ties_l1 n T hn hT n 0 _ (by omega) (hp.eq (fun i' s hi' hs => by
      unfold GG
      by_cases e : i' = 0 ∧ s = 0
      · rw [if_pos e, if_pos (by omega), e.1, e.2, CF_s0, if_pos rfl]
      · rw [if_neg e]
        by_cases e1 : i' < 0 + 1
        · rw [if_pos e1, show i' = 0 from by omega, CF_s0, if_neg (by omega)]
        · rw [if_neg e1]
          by_cases e2 : i' = 0 + 1 ∧ s < 1
          · rw [if_pos e2, show s = 0 from by omega, CF_0, if_neg (by omega)]
          · rw [if_neg e2]))
    exact this
  | succ d ih =>
    intro i w hi hl h
    refine Ev.s ?_
    have c : ((i : Int) < ((n + 1 : Nat) : Int)) := by omega
    have c1 : (0 : Int) ≤ ((T + 1 : Nat) : Int) := by omega
    have c2 : T + 1 ≤ 35184372088832 := by omega
    have c3 : (0 : Int) ≤ (i : Int) := by omega
    have c4 : (i : Int) < (w.length : Int) := by omega
    have hnext := ih (i + 1) (w.set i (List.replicate (T + 1) 0)) (by omega) (by rw [List.length_set]; exact hl) (fun j hj => by
      rw [rdL_set w i j _ (by omega)]
      by_cases e : i = j
      · rw [if_pos e]
      · rw [if_neg e]; exact h j (by omega))
    have e1 := w_add1 T (by omega)
    have e2 := w_add1 i (by clear e1; omega)
    simp only [spec_CountWithTies.l0, if_pos c, e1, if_pos c1, Int.toNat_natCast, if_pos c2, if_pos c3, if_pos c4, e2]
    exact hnext
theorem spec_ties (n T : Nat) (hn : n ≤ 20) (hT : T ≤ 20) : Ev (fun k => spec_CountWithTies.j0 k (n : Int) (T : Int) false) (CF T n, true) := by
  refine Ev.s ?_
  have c1 : (0 : Int) ≤ ((n + 1 : Nat) : Int) := by omega
  have c2 : n + 1 ≤ 11728124029610 := by omega
  have e1 := w_add1 n (by omega)
  simp only [spec_CountWithTies.j0, Bool.false_eq_true, if_false, e1, if_pos c1, Int.toNat_natCast, if_pos c2, Option.bind_some, List.length_replicate]
  exact ties_l0 n T hn hT (n + 1) 0 (List.replicate (n + 1) []) (by omega) List.length_replicate (fun j hj => by omega)
theorem shl_pow : ∀ t : Nat, t < 21 → shl .i64 1 (t : Int) = (2 : Int) ^ t := by decide +kernel
theorem impl_ties (n T : Nat) (hn : n ≤ 20) (hT : T ≤ 20) : Ev (fun k => impl_withTies.f k (n : Int) (T : Int)) (CF T n) := by
  unfold impl_withTies.f CF
  by_cases h0 : n = 0 ∨ T = 0
  · rw [if_pos h0]
    have yes : Ev (fun k => impl_withTies.j0 k (n : Int) (T : Int) true) (if n = T then 1 else 0) := by
      refine Ev.s ?_
      simp only [impl_withTies.j0, if_true]
      by_cases e : n = T
      · rw [if_pos e]
        simp only [if_pos (show (n : Int) = (T : Int) from by omega)]
        exact Ev.now _
      · rw [if_neg e]
        simp only [if_neg (show ¬ ((n : Int) = (T : Int)) from by omega)]
        exact Ev.now _
    by_cases hn0 : n = 0
    · simp only [if_pos (show (n : Int) = 0 from by omega)]
      exact yes
    · have ht0 : ((T : Int) == 0) = true := by
        rw [beq_iff_eq]; omega
      simp only [if_neg (show ¬ ((n : Int) = 0) from by omega), ht0]
      exact yes
  · rw [if_neg h0]
    have ht0 : ((T : Int) == 0) = false := by
      rw [beq_eq_false_iff_ne]; omega
    simp only [if_neg (show ¬ ((n : Int) = 0) from by omega), ht0]
    refine Ev.s ?_
    by_cases hgt : T > n
    · rw [if_pos hgt]
      simp only [impl_withTies.j0, Bool.false_eq_true, if_false, if_pos (show (T : Int) > (n : Int) from by omega)]
      exact Ev.now _
    · rw [if_neg hgt]
      have hch := choose_ev ((2 * n - T : Nat) : Int) (n : Int) (by omega)
      rw [Cz_nat, C_CQ (2 * n - T) n (by omega)] at hch
      have hs := shl_pow T (by omega)
      have c1 : ¬ ((T : Int) > (n : Int)) := by omega
      have c2 : (0 : Int) ≤ (T : Int) := by omega
      have c3 : ¬ (((2 * n - T : Nat) : Int) = 0) := by omega
      have e0 : wrap64 (2 * (n : Int)) = ((2 * n : Nat) : Int) := by rw [w64 (by omega) (by omega)]; omega
      have e1 := w_sub (2 * n) T (2 * n - T) (by clear e0; omega) (by clear e0; omega)
      simp only [impl_withTies.j0, Bool.false_eq_true, if_false, if_neg c1, if_pos c2, e0, e1]
      refine Ev.bs hch ?_
      simp only [if_neg c3, hs]
      exact Ev.now _
theorem FnExactCountWithTies : laws_FnExactCountWithTies.Pure := by
  intro a b _ _
  refine Ev.rounds ?_
  unfold laws_FnExactCountWithTies.f spec_CountWithTies.f impl_CountWithTies.f
  simp only [in_eq, l1In_eq, Option.bind_some, decide_eq_true_eq]
  have no1 : Ev (fun k => spec_CountWithTies.j0 k a b true) (0, false) := by
    refine Ev.s ?_
    simp only [spec_CountWithTies.j0, if_true]
    exact Ev.now _
  by_cases ha : 0 ≤ a ∧ a ≤ 20
  · by_cases hb : 0 ≤ b ∧ b ≤ 20
    · obtain ⟨n, rfl⟩ := Int.eq_ofNat_of_zero_le ha.1
      obtain ⟨t, rfl⟩ := Int.eq_ofNat_of_zero_le hb.1
      simp only [if_pos ha, if_pos hb, decide_eq_true hb, Bool.not_true, Option.bind_assoc, Option.bind_some]
      refine Ev.bs (spec_ties n t (by omega) (by omega)) (Ev.bs (impl_ties n t (by omega) (by omega)) ?_)
      simp only [if_true, bne_self_eq_false, Bool.false_eq_true, if_false]
      exact Ev.now _
    · simp only [if_pos ha, if_neg hb, decide_eq_false hb, Bool.not_false, Option.bind_some]
      refine Ev.bs no1 ?_
      simp only [if_true, bne_self_eq_false, Bool.false_eq_true, if_false]
      exact Ev.now _
  · simp only [if_neg ha, Option.bind_some]
    refine Ev.bs no1 ?_
    simp only [if_true, bne_self_eq_false, Bool.false_eq_true, if_false]
    exact Ev.now _

end Go.Proofs.Ythhnpklgodaipaa.Pure
