/- The plain law of the statement FnExactAllAhead: what the program's function computes is what the reference's computes, for all arguments; no condition. -/
import Derived.Test.YtblofikjcmjaeaaPFnExactAllAheadx5
namespace Go.Proofs.Ytblofikjcmjaeaa.Pure
open Go.RowKit Go.Proofs.Ytblofikjcmjaeaa.PFnExactAllAhead Go.Proofs.YtblofikjcmjaeaaW.PrintWords Go.Proofs.YtblofikjcmjaeaaW.PrintLast Go.Proofs.YtblofikjcmjaeaaW.PrintMore

def C : Nat → Nat → Nat
  | _, 0 => 1
  | 0, _ + 1 => 0
  | n + 1, k + 1 => C n k + C n (k + 1)
theorem C_zero (n : Nat) : C n 0 = 1 := by cases n <;> rfl
theorem C_zs (k : Nat) : C 0 (k + 1) = 0 := rfl
theorem C_ss (n k : Nat) : C (n + 1) (k + 1) = C n k + C n (k + 1) := rfl
theorem C_lt : ∀ (n k : Nat), n < k → C n k = 0
  | 0, k + 1, _ => rfl
  | n + 1, k + 1, h => by rw [C_ss, C_lt n k (by omega), C_lt n (k + 1) (by omega)]
theorem C_self : ∀ n : Nat, C n n = 1
  | 0 => rfl
  | n + 1 => by rw [C_ss, C_self n, C_lt n (n + 1) (by omega)]
theorem C_pos : ∀ (n k : Nat), k ≤ n → 1 ≤ C n k
  | n, 0, _ => by rw [C_zero]; omega
  | n + 1, k + 1, h => by rw [C_ss]; have := C_pos n k (by omega); omega
theorem C_absorb : ∀ (n k : Nat), C (n + 1) (k + 1) * (k + 1) = (n + 1) * C n k
  | 0, 0 => rfl
  | 0, k + 1 => by rw [C_lt 1 (k + 2) (by omega), C_lt 0 (k + 1) (by omega)]; omega
  | n + 1, 0 => by
    have h := C_absorb n 0
    rw [C_ss, C_zero] ; rw [C_zero] at h; omega
  | n + 1, k + 1 => by
    have h1 := C_absorb n k
    have h2 := C_absorb n (k + 1)
    rw [C_ss (n + 1) (k + 1)]
    rw [C_ss n k] at h1 ⊢
    grind
theorem C_step (n k : Nat) (h : k ≤ n) : C n (k + 1) * (k + 1) = C n k * (n - k) := by
  have h1 := C_absorb n k
  rw [C_ss] at h1
  obtain ⟨d, rfl⟩ : ∃ d, n = k + d := ⟨n - k, by omega⟩
  rw [Nat.add_sub_cancel_left]
  grind
theorem C_symm : ∀ (n k : Nat), k ≤ n → C n (n - k) = C n k
  | 0, 0, _ => rfl
  | n + 1, 0, _ => by rw [Nat.sub_zero, C_self, C_zero]
  | n + 1, k + 1, h => by
    by_cases e : k = n
    · subst e; rw [Nat.sub_self, C_zero, C_self]
    · have h1 := C_symm n k (by omega)
      have h2 := C_symm n (k + 1) (by omega)
      have e1 : n + 1 - (k + 1) = (n - (k + 1)) + 1 := by omega
      rw [e1, C_ss, C_ss, h2]
      have e2 : n - (k + 1) + 1 = n - k := by omega
      rw [e2, h1]; omega
theorem C_le : ∀ (n k : Nat), C n k ≤ 2 ^ n
  | n, 0 => by rw [C_zero]; exact Nat.one_le_two_pow
  | 0, k + 1 => by rw [C_zs]; omega
  | n + 1, k + 1 => by
    rw [C_ss, Nat.pow_succ]
    cases n with
    | zero => cases k with
      | zero => decide
      | succ k => simp [C]
    | succ m =>
      have h1 := C_le (m+1) k
      have h2 := C_le (m+1) (k + 1)
      omega
theorem C_le40 (n k : Nat) (h : n ≤ 40) : C n k ≤ 1099511627776 := by
  have h1 := C_le n k
  have h2 : 2 ^ n ≤ 2 ^ 40 := Nat.pow_le_pow_right (by omega) h
  omega

theorem Ev.s {α : Type} {g : Nat → Option α} {r : α} (h : Ev (fun k => g (k + 1)) r) : Ev g r := by
  obtain ⟨K, hK⟩ := h
  refine ⟨K + 1, fun k hk => ?_⟩
  obtain ⟨m, rfl⟩ : ∃ m, k = m + 1 := ⟨k - 1, by omega⟩
  exact hK m (by omega)
theorem Ev.c {α : Type} {o : Option α} {r : α} (h : o = some r) : Ev (fun _ => o) r := ⟨0, fun _ _ => h⟩
theorem Ev.u {α : Type} {g : Nat → Option α} {r r' : α} (h : Ev g r) (h' : Ev g r') : r = r' := by
  obtain ⟨K, hK⟩ := h
  obtain ⟨K', hK'⟩ := h'
  have a := hK (max K K') (by omega)
  have b := hK' (max K K') (by omega)
  rw [a] at b
  exact Option.some.inj b
theorem Ev.e {α : Type} {g : Nat → Option α} {r r' : α} (h : Ev g r) (e : r = r') : Ev g r' := e ▸ h
theorem Ev.bs {α β : Type} {g : Nat → Option α} {f : Nat → α → Option β} {a : α} {r : β} (h : Ev g a) (k : Ev (fun n => f n a) r) : Ev (fun n => Option.bind (g n) (f n)) r := Ev.bind h k
theorem w64 {n : Int} (h : -9223372036854775808 ≤ n) (h' : n ≤ 9223372036854775807) : wrap64 n = n := by unfold wrap64; omega
theorem rd_set (l : List Int) (i j : Int) (v : Int) (hi : 0 ≤ i) (hj : 0 ≤ j) (hl : i < (l.length : Int)) : rd (l.set i.toNat v) j = if i = j then v else rd l j := by
  unfold rd
  rw [List.getD_eq_getElem?_getD, List.getD_eq_getElem?_getD, List.getElem?_set]
  by_cases e : i = j
  · subst e; rw [if_pos rfl, if_pos rfl, if_pos (by omega)]; rfl
  · rw [if_neg (by omega), if_neg e]

theorem in_eq (a b c : Int) : impl_in.f a b c = some (decide (b ≤ a ∧ a ≤ c)) := by
  unfold impl_in.f
  by_cases h : b ≤ a
  · rw [if_pos h]; simp [h]
  · rw [if_neg h]; simp [h]

theorem l1In_eq (a b c : Int) : spec_l1In.f a b c = some (decide (b ≤ a ∧ a ≤ c)) := by
  unfold spec_l1In.f
  by_cases h : a ≥ b
  · rw [if_pos h]; simp [h]
  · rw [if_neg h]; simp [h]

def Cz (n j : Int) : Int := if 0 ≤ j ∧ j ≤ n then (C n.toNat j.toNat : Int) else 0
theorem Cz_nat (n j : Nat) : Cz (n : Int) (j : Int) = (C n j : Int) := by
  unfold Cz
  by_cases h : j ≤ n
  · rw [if_pos (by omega)]; simp
  · rw [if_neg (by omega), C_lt n j (by omega)]; rfl
theorem Cz_le (n j : Int) (hn : n ≤ 40) : 0 ≤ Cz n j ∧ Cz n j ≤ 1099511627776 := by
  unfold Cz
  split
  · have := C_le40 n.toNat j.toNat (by omega); omega
  · omega
theorem Cz_symm (a b : Int) (ha : 0 ≤ a) (hb : 0 ≤ b) : Cz (a + b) b = Cz (a + b) a := by
  unfold Cz
  rw [if_pos (by omega), if_pos (by omega)]
  have h := C_symm (a + b).toNat a.toNat (by omega)
  rw [show (a + b).toNat - a.toNat = b.toNat from by omega] at h
  rw [h]

theorem l1Least_eq (a b : Int) : spec_l1Least.f a b = some (min a b) := by
  unfold spec_l1Least.f
  by_cases h : a < b
  · rw [if_pos h]; congr 1; omega
  · rw [if_neg h]; congr 1; omega
def PRow (J : Nat) (l : List Int) (i j : Nat) : Prop :=
  l.length = J + 1 ∧ ∀ t : Nat, t ≤ J → rd l (t : Int) = if j < t then (C (i + 1) t : Int) else (C i t : Int)
theorem pa_l1 (n J : Nat) (hn : n ≤ 40) (hJ : J ≤ 40) (i : Nat) (hi : i < n) (j : Nat) : ∀ (l : List Int), j ≤ J → PRow J l i j →
    ∃ l', PRow J l' i 0 ∧ ∀ r, Ev (fun k => spec_paChoose.l0 k (n : Int) (J : Int) l' ((i + 2 : Nat) : Int)) r → Ev (fun k => spec_paChoose.l1 k (n : Int) (J : Int) l ((i + 1 : Nat) : Int) (j : Int)) r := by
  induction j with
  | zero =>
    intro l _ hl
    refine ⟨l, hl, fun r h => ?_⟩
    refine Ev.s ?_
    have e : wrap64 (((i + 1 : Nat) : Int) + 1) = ((i + 2 : Nat) : Int) := by rw [w64 (by omega) (by omega)]; omega
    have hz : ¬ (((0 : Nat) : Int) > 0) := by omega
    simp only [spec_paChoose.l1, if_neg hz, e]
    exact h
  | succ j ih =>
    intro l hj hl
    obtain ⟨hlen, hl⟩ := hl
    have a1 := hl (j + 1) hj
    have a2 := hl j (by omega)
    rw [if_neg (by omega)] at a1 a2
    have b1 := C_le40 i (j + 1) (by omega)
    have b2 := C_le40 i j (by omega)
    have e1 : wrap64 (((j + 1 : Nat) : Int) - 1) = (j : Int) := by rw [w64 (by omega) (by omega)]; omega
    have e2 : wrap64 ((C i (j + 1) : Int) + (C i j : Int)) = (C (i + 1) (j + 1) : Int) := by rw [w64 (by omega) (by omega), C_ss]; omega
    obtain ⟨l', h', hr⟩ := ih (l.set ((j + 1 : Nat) : Int).toNat (C (i + 1) (j + 1) : Int)) (by omega) (by
      refine ⟨by simpa using hlen, fun t ht => ?_⟩
      rw [rd_set _ _ _ _ (by omega) (by omega) (by omega)]
      by_cases e : ((j + 1 : Nat) : Int) = (t : Int)
      · have : t = j + 1 := by omega
        subst this
        rw [if_pos rfl, if_pos (by omega)]
      · rw [if_neg e, hl t ht]
        by_cases c : j < t
        · rw [if_pos c, if_pos (by omega)]
        · rw [if_neg c, if_neg (by omega)])
    refine ⟨l', h', fun r h => ?_⟩
    refine Ev.s ?_
    have c1 : ((j + 1 : Nat) : Int) > 0 := by omega
    have c2 : (0 : Int) ≤ ((j + 1 : Nat) : Int) := by omega
    have c3 : ((j + 1 : Nat) : Int) < (l.length : Int) := by omega
    have c4 : (0 : Int) ≤ (j : Int) := by omega
    have c5 : (j : Int) < (l.length : Int) := by omega
    simp only [spec_paChoose.l1, e1, a1, a2, e2, if_pos c1, if_pos c2, if_pos c3, if_pos c4, if_pos c5]
    exact hr r h
theorem pa_l0 (n J : Nat) (hn : n ≤ 40) (hJ : J ≤ 40) (d : Nat) : ∀ (i : Nat) (l : List Int), i + d = n → PRow J l i J →
    Ev (fun k => spec_paChoose.l0 k (n : Int) (J : Int) l ((i + 1 : Nat) : Int)) (C n J : Int) := by
  induction d with
  | zero =>
    intro i l hi hl
    obtain rfl : i = n := by omega
    obtain ⟨hlen, hl⟩ := hl
    have a := hl J (Nat.le_refl _)
    rw [if_neg (by omega)] at a
    refine Ev.s ?_
    have c1 : ¬ (((i + 1 : Nat) : Int) ≤ (i : Int)) := by omega
    have c2 : (0 : Int) ≤ (J : Int) := by omega
    have c3 : (J : Int) < (l.length : Int) := by omega
    simp only [spec_paChoose.l0, if_neg c1, if_pos c2, if_pos c3, a]
    exact Ev.now _
  | succ d ih =>
    intro i l hi hl
    have hmin : min (((i + 1 : Nat) : Int)) (J : Int) = ((min (i + 1) J : Nat) : Int) := by omega
    have hl2 : PRow J l i (min (i + 1) J) := by
      refine ⟨hl.1, fun t ht => ?_⟩
      have := hl.2 t ht
      rw [if_neg (by omega)] at this
      by_cases c : min (i + 1) J < t
      · rw [if_pos c, this, C_lt i t (by omega), C_lt (i + 1) t (by omega)]
      · rw [if_neg c, this]
    obtain ⟨l', h', hr⟩ := pa_l1 n J hn hJ i (by omega) (min (i + 1) J) l (by omega) hl2
    refine Ev.s ?_
    have c1 : (((i + 1 : Nat) : Int) ≤ (n : Int)) := by omega
    simp only [spec_paChoose.l0, if_pos c1, l1Least_eq, Option.bind_some, hmin]
    refine hr _ (ih (i + 1) l' (by omega) ⟨h'.1, fun t ht => ?_⟩)
    have := h'.2 t ht
    rw [if_neg (by omega), this]
    by_cases c : 0 < t
    · rw [if_pos c]
    · rw [if_neg c]; obtain rfl : t = 0 := by omega
      rw [C_zero, C_zero]
theorem paChoose_ev (n j : Int) (hn : n ≤ 40) : Ev (fun k => spec_paChoose.f k n j) (Cz n j) := by
  unfold spec_paChoose.f
  by_cases h0 : j < 0
  · simp only [if_pos h0]
    refine Ev.s ?_
    simp only [spec_paChoose.j0, if_true]
    have : Cz n j = 0 := by unfold Cz; rw [if_neg (by omega)]
    rw [this]; exact Ev.now _
  · simp only [if_neg h0]
    refine Ev.s ?_
    by_cases h1 : j > n
    · simp only [spec_paChoose.j0, decide_eq_true h1, if_true]
      have : Cz n j = 0 := by unfold Cz; rw [if_neg (by omega)]
      rw [this]; exact Ev.now _
    · have e1 : wrap64 (j + 1) = j + 1 := by rw [w64 (by omega) (by omega)]
      obtain ⟨J, rfl⟩ : ∃ J : Nat, j = (J : Int) := ⟨j.toNat, by omega⟩
      obtain ⟨N, rfl⟩ : ∃ N : Nat, n = (N : Int) := ⟨n.toNat, by omega⟩
      have e2 : ((J : Int) + 1).toNat = J + 1 := by omega
      have c1 : (0 : Int) ≤ (J : Int) + 1 := by omega
      have c2 : J + 1 ≤ 35184372088832 := by omega
      have c3 : (0 : Int) < ((List.replicate (J + 1) (0 : Int)).length : Int) := by rw [List.length_replicate]; omega
      have hb : decide ((J : Int) > (N : Int)) = false := decide_eq_false h1
      simp only [spec_paChoose.j0, hb, e1, e2, if_pos c1, if_pos c2, Option.bind_some, if_pos c3, Bool.false_eq_true, if_false]
      rw [Cz_nat]
      refine pa_l0 N J (by omega) (by omega) N 0 _ (by omega) ⟨by simp, fun t ht => ?_⟩
      have h0 : ¬ (J < t) := by omega
      have hr : ∀ u : Nat, rd (List.replicate (J + 1) (0 : Int)) (u : Int) = 0 := by
        intro u
        unfold rd
        rw [List.getD_eq_getElem?_getD, List.getElem?_replicate]
        split <;> rfl
      rw [rd_set _ _ _ _ (by omega) (by omega) c3]
      simp only [if_neg h0]
      by_cases e : (0 : Int) = (t : Int)
      · obtain rfl : t = 0 := by omega
        simp [C_zero]
      · obtain ⟨s, rfl⟩ : ∃ s, t = s + 1 := ⟨t - 1, by omega⟩
        simp only [if_neg e, C_zs]
        exact hr _

def Steps (a b : Int) : Prop := (0 ≤ a ∧ a ≤ 40) ∧ (0 ≤ b ∧ b ≤ 40) ∧ a + b ≤ 40
instance (a b : Int) : Decidable (Steps a b) := by unfold Steps; infer_instance
theorem paSteps_eq (a b : Int) : spec_paSteps.f a b = some (decide (Steps a b)) := by
  unfold spec_paSteps.f Steps
  simp only [l1In_eq, Option.bind_some, decide_eq_true_eq]
  by_cases ha : 0 ≤ a ∧ a ≤ 40
  · by_cases hb : 0 ≤ b ∧ b ≤ 40
    · rw [w64 (by omega) (by omega)]; simp [ha, hb]
    · simp [ha, hb]
  · simp [ha]
theorem areSteps_eq (a b : Int) : impl_areSteps.f a b = some (decide (Steps a b)) := by
  unfold impl_areSteps.f Steps
  simp only [in_eq, Option.bind_some, decide_eq_true_eq]
  by_cases ha : 0 ≤ a ∧ a ≤ 40
  · by_cases hb : 0 ≤ b ∧ b ≤ 40
    · rw [w64 (by omega) (by omega)]; simp [ha, hb]
    · simp [ha, hb]
  · simp [ha]

theorem baNumbers_eq (a b c : Int) : spec_baNumbers.f a b c = some (decide (Steps a b ∧ 1 ≤ c ∧ c ≤ 5)) := by
  unfold spec_baNumbers.f
  simp only [paSteps_eq, l1In_eq, Option.bind_some, decide_eq_true_eq]
  by_cases h : Steps a b <;> simp [h]
theorem areVotes_eq (a b c : Int) : impl_areVotes.f a b c = some (decide (Steps a b ∧ 1 ≤ c ∧ c ≤ 5)) := by
  unfold impl_areVotes.f
  simp only [areSteps_eq, in_eq, Option.bind_some, decide_eq_true_eq]
  by_cases h : Steps a b <;> simp [h]
theorem mul5 (b c : Int) (hb : 0 ≤ b ∧ b ≤ 40) (hc : 1 ≤ c ∧ c ≤ 5) : 0 ≤ c * b ∧ c * b ≤ 200 := by
  obtain ⟨n, rfl⟩ : ∃ n : Nat, b = (n : Int) := ⟨b.toNat, by omega⟩
  have : c = 1 ∨ c = 2 ∨ c = 3 ∨ c = 4 ∨ c = 5 := by omega
  rcases this with rfl | rfl | rfl | rfl | rfl <;> omega
theorem mul_big (x y : Int) (h0 : 0 ≤ x) (h1 : x ≤ 300) (h2 : 0 ≤ y) (h3 : y ≤ 1099511627776) : 0 ≤ x * y ∧ x * y ≤ 300 * 1099511627776 :=
  ⟨Int.mul_nonneg h0 h2, Int.mul_le_mul h1 h3 h2 (by omega)⟩

/-- What `ahead` comes to. -/
def Ah (a b c : Int) : Int := if a + b = 0 then 1 else if a < c * b then 0 else wrap64 (Int.tdiv ((a - c * b) * Cz (a + b) a) (a + b))
theorem baAhead_ev (a b c : Int) (hs : Steps a b) (hc : 1 ≤ c ∧ c ≤ 5) : Ev (fun k => spec_baAhead.f k a b c) (Ah a b c) := by
  obtain ⟨ha, hb, hab⟩ := hs
  have hm := mul5 b c hb hc
  have e1 : wrap64 (c * b) = c * b := w64 (by omega) (by omega)
  have e2 : wrap64 (a + b) = a + b := w64 (by omega) (by omega)
  have e4 : wrap64 (a - c * b) = a - c * b := w64 (by omega) (by omega)
  unfold spec_baAhead.f Ah
  simp only [e1, e2, e4]
  by_cases h0 : a + b = 0
  · simp only [if_pos h0]; exact Ev.now _
  simp only [if_neg h0]
  by_cases h : a < c * b
  · simp only [if_pos h]; exact Ev.now _
  · simp only [if_neg h]
    refine Ev.bs (paChoose_ev _ _ hab) ?_
    have hz2 := Cz_le (a + b) a hab
    have hz3 := mul_big (a - c * b) (Cz (a + b) a) (by omega) (by omega) hz2.1 hz2.2
    rw [Int.mul_comm (Cz (a + b) a), w64 (n := (a - c * b) * Cz (a + b) a) (by omega) (by omega)]
    exact Ev.now _

theorem Cz_pascal (n j : Int) (hn : 0 ≤ n) : Cz (n + 1) j = Cz n (j - 1) + Cz n j := by
  unfold Cz
  by_cases h0 : 0 ≤ j
  · by_cases h1 : j = 0
    · subst h1
      rw [if_pos (by omega), if_neg (by omega), if_pos (by omega), Int.toNat_zero, C_zero, C_zero]; rfl
    · obtain ⟨m, rfl⟩ : ∃ m : Nat, j = (m : Int) + 1 := ⟨(j - 1).toNat, by omega⟩
      obtain ⟨N, rfl⟩ : ∃ N : Nat, n = (N : Int) := ⟨n.toNat, by omega⟩
      have e1 : ((N : Int) + 1).toNat = N + 1 := by omega
      have e2 : ((m : Int) + 1).toNat = m + 1 := by omega
      have e3 : ((m : Int) + 1 - 1).toNat = m := by omega
      rw [e1, e2, e3, Int.toNat_natCast, C_ss]
      by_cases c : m ≤ N
      · by_cases c2 : m + 1 ≤ N
        · rw [if_pos (by omega), if_pos (by omega), if_pos (by omega)]; omega
        · rw [if_pos (by omega), if_pos (by omega), if_neg (by omega), C_lt N (m + 1) (by omega)]; omega
      · rw [if_neg (by omega), if_neg (by omega), if_neg (by omega)]; rfl
  · rw [if_neg (by omega), if_neg (by omega), if_neg (by omega)]; rfl

/-- How many ways of n steps lead from (u, d) to (a, b), each point behind a step with a lead of at least l. -/
def Hn (k l : Int) : Nat → Int → Int → Int → Int → Int
  | 0, u, d, a, b => if u = a ∧ d = b then 1 else 0
  | n + 1, u, d, a, b => (if l ≤ u + 1 - k * d then Hn k l n (u + 1) d a b else 0) + (if l ≤ u - k * (d + 1) then Hn k l n u (d + 1) a b else 0)
theorem Hn_nonneg (k l : Int) : ∀ (n : Nat) (u d a b : Int), 0 ≤ Hn k l n u d a b
  | 0, u, d, a, b => by unfold Hn; split <;> omega
  | n + 1, u, d, a, b => by
    have h1 := Hn_nonneg k l n (u + 1) d a b
    have h2 := Hn_nonneg k l n u (d + 1) a b
    unfold Hn
    split <;> split <;> omega
theorem Hn_out (k l : Int) : ∀ (n : Nat) (u d a b : Int), (a < u ∨ b < d) → Hn k l n u d a b = 0
  | 0, u, d, a, b, h => by unfold Hn; rw [if_neg (by omega)]
  | n + 1, u, d, a, b, h => by
    unfold Hn
    rw [Hn_out k l n (u + 1) d a b (by omega), Hn_out k l n u (d + 1) a b (by omega)]
    split <;> split <;> rfl
theorem Hn_len (k l : Int) : ∀ (n : Nat) (u d a b : Int), a + b ≠ u + d + n → Hn k l n u d a b = 0
  | 0, u, d, a, b, h => by unfold Hn; rw [if_neg (by omega)]
  | n + 1, u, d, a, b, h => by
    unfold Hn
    rw [Hn_len k l n (u + 1) d a b (by omega), Hn_len k l n u (d + 1) a b (by omega)]
    split <;> split <;> rfl
/-- The last step in the place of the first. -/
theorem Hn_last (k l : Int) : ∀ (n : Nat) (u d a b : Int), Hn k l (n + 1) u d a b = if l ≤ a - k * b then Hn k l n u d (a - 1) b + Hn k l n u d a (b - 1) else 0
  | 0, u, d, a, b => by
    have e : Hn k l (0 + 1) u d a b = (if l ≤ u + 1 - k * d then Hn k l 0 (u + 1) d a b else 0) + (if l ≤ u - k * (d + 1) then Hn k l 0 u (d + 1) a b else 0) := rfl
    have A : Hn k l 0 (u + 1) d a b = Hn k l 0 u d (a - 1) b := by
      unfold Hn
      simp only [show (u + 1 = a ∧ d = b) ↔ (u = a - 1 ∧ d = b) from by omega]
    have B : Hn k l 0 u (d + 1) a b = Hn k l 0 u d a (b - 1) := by
      unfold Hn
      simp only [show (u = a ∧ d + 1 = b) ↔ (u = a ∧ d = b - 1) from by omega]
    rw [e, A, B]
    by_cases h1 : u = a - 1 ∧ d = b
    · obtain ⟨h1, rfl⟩ := h1
      obtain rfl : a = u + 1 := by omega
      have z : Hn k l 0 u d (u + 1) (d - 1) = 0 := Hn_out k l 0 u d _ _ (by omega)
      rw [z]
      split <;> split <;> omega
    · by_cases h2 : u = a ∧ d = b - 1
      · obtain ⟨rfl, h2⟩ := h2
        obtain rfl : b = d + 1 := by omega
        have z : Hn k l 0 u d (u - 1) (d + 1) = 0 := Hn_out k l 0 u d _ _ (by omega)
        rw [z]
        split <;> split <;> omega
      · have z1 : Hn k l 0 u d (a - 1) b = 0 := by unfold Hn; rw [if_neg h1]
        have z2 : Hn k l 0 u d a (b - 1) = 0 := by unfold Hn; rw [if_neg h2]
        rw [z1, z2]
        simp
  | n + 1, u, d, a, b => by
    have e : ∀ (m : Nat) (u d a b : Int), Hn k l (m + 1) u d a b = (if l ≤ u + 1 - k * d then Hn k l m (u + 1) d a b else 0) + (if l ≤ u - k * (d + 1) then Hn k l m u (d + 1) a b else 0) := fun _ _ _ _ _ => rfl
    rw [e (n + 1), Hn_last k l n (u + 1) d a b, Hn_last k l n u (d + 1) a b, e n u d (a - 1) b, e n u d a (b - 1)]
    split <;> split <;> split <;> omega
/-- How many paths from the origin to (a, b). -/
def Gb (k l a b : Int) : Int := Hn k l (a + b).toNat 0 0 a b
theorem Gb_zero (k l : Int) : Gb k l 0 0 = 1 := by unfold Gb; rfl
theorem Gb_out (k l a b : Int) (h : a < 0 ∨ b < 0) : Gb k l a b = 0 := Hn_out k l _ 0 0 a b h
theorem Gb_step (k l a b : Int) (h : 0 ≤ a ∧ 0 ≤ b ∧ 1 ≤ a + b) : Gb k l a b = if l ≤ a - k * b then Gb k l (a - 1) b + Gb k l a (b - 1) else 0 := by
  unfold Gb
  obtain ⟨n, hn⟩ : ∃ n : Nat, (a + b).toNat = n + 1 := ⟨(a + b).toNat - 1, by omega⟩
  rw [hn, Hn_last, show (a - 1 + b).toNat = n from by omega, show (a + (b - 1)).toNat = n from by omega]
theorem Gb_nonneg (k l a b : Int) : 0 ≤ Gb k l a b := Hn_nonneg _ _ _ _ _ _ _
theorem cz_two (a b : Int) (ha : 0 ≤ a) (hb : 1 ≤ b) : b * Cz (a + b - 1) b = a * Cz (a + b - 1) (b - 1) := by
  obtain ⟨A, rfl⟩ : ∃ A : Nat, a = (A : Int) := ⟨a.toNat, by omega⟩
  obtain ⟨B, rfl⟩ : ∃ B : Nat, b = (B : Int) + 1 := ⟨(b - 1).toNat, by omega⟩
  have e1 : (A : Int) + ((B : Int) + 1) - 1 = ((A + B : Nat) : Int) := by omega
  have e2 : (B : Int) + 1 = ((B + 1 : Nat) : Int) := by omega
  have e3 : (B : Int) + 1 - 1 = (B : Int) := by omega
  rw [e1, e3, e2, Cz_nat, Cz_nat]
  have h := C_step (A + B) B (by omega)
  rw [show A + B - B = A from by omega] at h
  have h' : ((C (A + B) (B + 1) * (B + 1) : Nat) : Int) = ((C (A + B) B * A : Nat) : Int) := by rw [h]
  rw [Int.natCast_mul, Int.natCast_mul] at h'
  rw [Int.mul_comm, h', Int.mul_comm]
/-- The ballot theorem, never behind. -/
theorem ballot0 (k : Int) (hk : 1 ≤ k) : ∀ (n : Nat) (a b : Int), 0 ≤ a → 0 ≤ b → a + b = n →
    (k * b ≤ a → (a + 1) * Gb k 0 a b = (a + 1 - k * b) * Cz (a + b) b) ∧ (a < k * b → Gb k 0 a b = 0) := by
  intro n
  induction n with
  | zero =>
    intro a b ha hb hn
    obtain rfl : a = 0 := by omega
    obtain rfl : b = 0 := by omega
    refine ⟨fun _ => ?_, fun h => by simp at h⟩
    rw [Gb_zero]
    have : Cz (0 + 0) 0 = 1 := by decide
    rw [this]; simp
  | succ n ih =>
    intro a b ha hb hn
    have st := Gb_step k 0 a b ⟨ha, hb, by omega⟩
    refine ⟨fun h => ?_, fun h => ?_⟩
    · rw [if_pos (by omega)] at st
      by_cases hb0 : b = 0
      · subst hb0
        rw [Gb_out k 0 a (0 - 1) (by omega), Int.add_zero] at st
        have i1 := (ih (a - 1) 0 (by omega) (by omega) (by omega)).1 (by simp; omega)
        have c1 : Cz (a - 1 + 0) 0 = 1 := by unfold Cz; rw [if_pos (by omega), Int.toNat_zero, C_zero]; rfl
        have c2 : Cz (a + 0) 0 = 1 := by unfold Cz; rw [if_pos (by omega), Int.toNat_zero, C_zero]; rfl
        rw [c1] at i1
        rw [c2, st]
        have hp : 0 < a := by omega
        have : a * (Gb k 0 (a - 1) 0 - 1) = 0 := by grind
        rcases Int.mul_eq_zero.1 this with z | z
        · omega
        · have z' : Gb k 0 (a - 1) 0 = 1 := by omega
          rw [z']; simp
      · have ha1 : 1 ≤ a := by
          have := Int.mul_le_mul (a := 1) (b := 1) (c := k) (d := b) (by omega) (by omega) (by omega) (by omega)
          omega
        have i2 := (ih a (b - 1) (by omega) (by omega) (by omega)).1 (by have : k * (b - 1) = k * b - k := by grind
                                                                         omega)
        have i1 : a * Gb k 0 (a - 1) b = (a - k * b) * Cz (a + b - 1) b := by
          by_cases c : k * b ≤ a - 1
          · have := (ih (a - 1) b (by omega) (by omega) (by omega)).1 c
            rw [show a - 1 + 1 = a from by omega, show a - 1 + b = a + b - 1 from by omega] at this
            exact this
          · rw [(ih (a - 1) b (by omega) (by omega) (by omega)).2 (by omega), show a - k * b = 0 from by omega]; simp
        have p := Cz_pascal (a + b - 1) b (by omega)
        rw [show a + b - 1 + 1 = a + b from by omega] at p
        have t := cz_two a b ha (by omega)
        rw [show a + (b - 1) = a + b - 1 from by omega] at i2
        generalize Gb k 0 (a - 1) b = g1 at *
        generalize Gb k 0 a (b - 1) = g2 at *
        generalize Cz (a + b - 1) b = c1 at *
        generalize Cz (a + b - 1) (b - 1) = c2 at *
        rw [st, p]
        have key : a * ((a + 1) * (g1 + g2) - (a + 1 - k * b) * (c2 + c1)) = 0 := by grind
        rcases Int.mul_eq_zero.1 key with z | z
        · omega
        · omega
    · rw [if_neg (by omega)] at st; exact st
/-- The ballot theorem, always ahead. -/
theorem ballot1 (k : Int) (hk : 1 ≤ k) : ∀ (n : Nat) (a b : Int), 0 ≤ a → 0 ≤ b → a + b = (n : Int) + 1 →
    (k * b ≤ a → (a + b) * Gb k 1 a b = (a - k * b) * Cz (a + b) b) ∧ (a ≤ k * b → Gb k 1 a b = 0) := by
  intro n
  induction n with
  | zero =>
    intro a b ha hb hn
    have st := Gb_step k 1 a b ⟨ha, hb, by omega⟩
    have : (a = 1 ∧ b = 0) ∨ (a = 0 ∧ b = 1) := by omega
    rcases this with ⟨rfl, rfl⟩ | ⟨rfl, rfl⟩
    · refine ⟨fun _ => ?_, fun h => by simp at h⟩
      rw [if_pos (by simp), show (1 : Int) - 1 = 0 from rfl, Gb_zero, Gb_out k 1 1 (0 - 1) (by omega)] at st
      rw [st]
      have : Cz (1 + 0) 0 = 1 := by decide
      rw [this]; simp
    · rw [if_neg (by omega)] at st
      exact ⟨fun h => by omega, fun _ => st⟩
  | succ n ih =>
    intro a b ha hb hn
    have st := Gb_step k 1 a b ⟨ha, hb, by omega⟩
    refine ⟨fun h => ?_, fun h => by rw [if_neg (by omega)] at st; exact st⟩
    by_cases ht : a = k * b
    · rw [if_neg (by omega)] at st
      rw [st, ht]; simp
    rw [if_pos (by omega)] at st
    by_cases hb0 : b = 0
    · subst hb0
      rw [Gb_out k 1 a (0 - 1) (by omega), Int.add_zero] at st
      have i1 := (ih (a - 1) 0 (by omega) (by omega) (by omega)).1 (by simp; omega)
      have c1 : Cz (a - 1 + 0) 0 = 1 := by unfold Cz; rw [if_pos (by omega), Int.toNat_zero, C_zero]; rfl
      have c2 : Cz (a + 0) 0 = 1 := by unfold Cz; rw [if_pos (by omega), Int.toNat_zero, C_zero]; rfl
      rw [c1] at i1
      rw [c2, st]
      have : (a - 1) * (Gb k 1 (a - 1) 0 - 1) = 0 := by grind
      rcases Int.mul_eq_zero.1 this with z | z
      · omega
      · have z' : Gb k 1 (a - 1) 0 = 1 := by omega
        rw [z']; simp
    · have hkb : 1 ≤ k * b := by
        have := Int.mul_le_mul (a := 1) (b := 1) (c := k) (d := b) (by omega) (by omega) (by omega) (by omega)
        omega
      have e0 : k * (b - 1) = k * b - k := by grind
      have i2 := (ih a (b - 1) (by omega) (by omega) (by omega)).1 (by omega)
      have i1 := (ih (a - 1) b (by omega) (by omega) (by omega)).1 (by omega)
      have p := Cz_pascal (a + b - 1) b (by omega)
      rw [show a + b - 1 + 1 = a + b from by omega] at p
      have t := cz_two a b ha (by omega)
      rw [show a + (b - 1) = a + b - 1 from by omega] at i2
      rw [show a - 1 + b = a + b - 1 from by omega] at i1
      generalize Gb k 1 (a - 1) b = g1 at *
      generalize Gb k 1 a (b - 1) = g2 at *
      generalize Cz (a + b - 1) b = c1 at *
      generalize Cz (a + b - 1) (b - 1) = c2 at *
      rw [st, p]
      have key : (a + b - 1) * ((a + b) * (g1 + g2) - (a - k * b) * (c2 + c1)) = 0 := by grind
      rcases Int.mul_eq_zero.1 key with z | z
      · omega
      · omega

theorem drop_rd (l : List Int) (i : Nat) (h : i < l.length) : l.drop i = rd l (i : Int) :: l.drop (i + 1) := by
  rw [List.drop_eq_getElem_cons h]
  unfold rd
  rw [Int.toNat_natCast, List.getD_eq_getElem?_getD, List.getElem?_eq_getElem h]
  rfl
theorem rd_get (l : List Int) (i : Nat) (h : i < l.length) : rd l (i : Int) = l[i] := by
  unfold rd
  rw [Int.toNat_natCast, List.getD_eq_getElem?_getD, List.getElem?_eq_getElem h]
  rfl
theorem wsucc (i n : Nat) (h : i < n) (hn : n ≤ 9223372036854775807) : wrap64 ((i : Int) + 1) = ((i + 1 : Nat) : Int) := by
  rw [w64 (by omega) (by omega)]; omega
theorem rd_cons_succ (x : Int) (l : List Int) (i : Nat) : rd (x :: l) ((i + 1 : Nat) : Int) = rd l (i : Int) := by
  unfold rd
  simp only [Int.toNat_natCast, List.getD_cons_succ]
theorem rd_cons_zero (x : Int) (l : List Int) : rd (x :: l) 0 = x := rfl

theorem wnatM (n : Nat) (h : n ≤ 9223372036854775807) : wrap64 (n : Int) = (n : Int) := w64 (by omega) (by omega)

theorem strOf_snoc (xs : List Int) (c : Int) (u : UInt8) (h : strOfNums [c] = ⟨#[u]⟩) : strOfNums (xs ++ [c]) = strOfNums xs ++ (⟨#[u]⟩ : ByteArray) := by
  have e : ∀ (a b : List Int), (strOfNums (a ++ b)).data = (strOfNums a).data ++ (strOfNums b).data := by
    intro a b
    unfold strOfNums
    simp
  apply ByteArray.ext
  rw [e, h]
  simp [ByteArray.data_append]
theorem strOf_D (xs : List Int) : strOfNums (xs ++ [68]) = strOfNums xs ++ (⟨#[68]⟩ : ByteArray) := strOf_snoc xs 68 68 rfl
theorem strOf_U (xs : List Int) : strOfNums (xs ++ [85]) = strOfNums xs ++ (⟨#[85]⟩ : ByteArray) := strOf_snoc xs 85 85 rfl
theorem strOf_len (xs : List Int) : (strOfNums xs).size = xs.length := by
  unfold strOfNums
  simp [ByteArray.size]

theorem wF_out {out : Int → Int → Prop} [∀ u d, Decidable (out u d)] {a b : Int} {F : Int → Int → Int} (H : OnF out a b F) {u d : Int} (h1 : 0 ≤ u) (h2 : u ≤ 41) (h3 : 0 ≤ d) (h4 : d ≤ 41) (h : u > a ∨ d > b ∨ out u d) : F u d = 0 := by
  rw [H.eq u d h1 h2 h3 h4, if_pos h]
theorem wF_end {out : Int → Int → Prop} [∀ u d, Decidable (out u d)] {a b : Int} {F : Int → Int → Int} (H : OnF out a b F) (h1 : 0 ≤ a) (h2 : a ≤ 41) (h3 : 0 ≤ b) (h4 : b ≤ 41) (h : ¬ out a b) : F a b = 1 := by
  rw [H.eq a b h1 h2 h3 h4, if_neg (by rintro (g | g | g) <;> first | omega | exact h g), if_pos ⟨rfl, rfl⟩]
theorem wF_step {out : Int → Int → Prop} [∀ u d, Decidable (out u d)] {a b : Int} {F : Int → Int → Int} (H : OnF out a b F) {u d : Int} (h1 : 0 ≤ u) (h2 : u ≤ a) (ha : a ≤ 40) (h3 : 0 ≤ d) (h4 : d ≤ b) (hb : b ≤ 40) (h : ¬ out u d) (hne : ¬ (u = a ∧ d = b)) : F u d = F (u + 1) d + F u (d + 1) := by
  rw [H.eq u d h1 (by omega) h3 (by omega), if_neg (by rintro (g | g | g) <;> first | omega | exact h g), if_neg hne]
abbrev OutN (k l u d : Int) : Prop := u + d > 0 ∧ u - k * d < l
theorem alive {out : Int → Int → Prop} [∀ u d, Decidable (out u d)] {A B : Int} {F : Int → Int → Int} (H : OnF out A B F) {u d : Int} (h1 : 0 ≤ u) (h2 : u ≤ 41) (h3 : 0 ≤ d) (h4 : d ≤ 41) (hp : 0 < F u d) : u ≤ A ∧ d ≤ B ∧ ¬ out u d := by
  have := H.eq u d h1 h2 h3 h4
  by_cases c : u > A ∨ d > B ∨ out u d
  · rw [if_pos c] at this; omega
  · exact ⟨by by_cases z : u > A; exact absurd (.inl z) c; omega, by by_cases z : d > B; exact absurd (.inr (.inl z)) c; omega, fun z => c (.inr (.inr z))⟩

/-- The texts that lead on, n steps being left, in their order. -/
def Ls (F : Int → Int → Int) : Nat → Int → Int → List (List Int)
  | 0, _, _ => [[]]
  | n + 1, u, d => (if 0 < F u (d + 1) then (Ls F n u (d + 1)).map (68 :: ·) else []) ++ (if 0 < F (u + 1) d then (Ls F n (u + 1) d).map (85 :: ·) else [])
/-- What is asked of a count of the ways that lead on. -/
structure WayF (F : Int → Int → Int) (a b : Int) : Prop where
  nn : ∀ u d, 0 ≤ F u d
  step : ∀ u d, 0 ≤ u → 0 ≤ d → u + d < a + b → 0 < F u d → F u d = F u (d + 1) + F (u + 1) d
  stop : ∀ u d, 0 ≤ u → 0 ≤ d → u + d = a + b → F u d = 0 ∨ F u d = 1
theorem Ls_len {F : Int → Int → Int} {a b : Int} (H : WayF F a b) : ∀ (n : Nat) (u d : Int), 0 ≤ u → 0 ≤ d → u + d + n = a + b → 0 < F u d → ((Ls F n u d).length : Int) = F u d
  | 0, u, d, hu, hd, hn, hp => by
    have := H.stop u d hu hd (by omega)
    simp only [Ls, List.length_singleton]; omega
  | n + 1, u, d, hu, hd, hn, hp => by
    have hs := H.step u d hu hd (by omega) hp
    have h1 := H.nn u (d + 1)
    have h2 := H.nn (u + 1) d
    simp only [Ls, List.length_append]
    have e1 : (((if 0 < F u (d + 1) then (Ls F n u (d + 1)).map (68 :: ·) else []).length : Nat) : Int) = F u (d + 1) := by
      split
      · rename_i h
        rw [List.length_map, Ls_len H n u (d + 1) hu (by omega) (by omega) h]
      · rw [List.length_nil]; omega
    have e2 : (((if 0 < F (u + 1) d then (Ls F n (u + 1) d).map (85 :: ·) else []).length : Nat) : Int) = F (u + 1) d := by
      split
      · rename_i h
        rw [List.length_map, Ls_len H n (u + 1) d (by omega) hd (by omega) h]
      · rw [List.length_nil]; omega
    omega
theorem tb_Ls {F : Int → Int → Int} {a b : Int} (H : WayF F a b) : ∀ (n : Nat) (u d r : Int) (out : List Int), 0 ≤ u → 0 ≤ d → u + d + n = a + b → 0 ≤ r → r < F u d → tb F n u d r out = out ++ (Ls F n u d).getD r.toNat []
  | 0, u, d, r, out, hu, hd, hn, h0, hr => by
    have := H.stop u d hu hd (by omega)
    obtain rfl : r = 0 := by omega
    simp [tb, Ls]
  | n + 1, u, d, r, out, hu, hd, hn, h0, hr => by
    have hs := H.step u d hu hd (by omega) (by omega)
    have h1 := H.nn u (d + 1)
    have h2 := H.nn (u + 1) d
    simp only [tb, Ls]
    by_cases hc : r < F u (d + 1)
    · rw [if_pos hc, if_pos (by omega), tb_Ls H n u (d + 1) r (out ++ [68]) hu (by omega) (by omega) h0 hc]
      have hl := Ls_len H n u (d + 1) hu (by omega) (by omega) (by omega)
      have hlt : r.toNat < (Ls F n u (d + 1)).length := by omega
      rw [List.getD_eq_getElem?_getD, List.getD_eq_getElem?_getD, List.getElem?_append_left (by rw [List.length_map]; exact hlt), List.getElem?_map, List.getElem?_eq_getElem hlt]
      simp
    · rw [if_neg hc, tb_Ls H n (u + 1) d (r - F u (d + 1)) (out ++ [85]) (by omega) hd (by omega) (by omega) (by omega)]
      have e1 : (((if 0 < F u (d + 1) then (Ls F n u (d + 1)).map (68 :: ·) else []).length : Nat) : Int) = F u (d + 1) := by
        split
        · rename_i h
          rw [List.length_map, Ls_len H n u (d + 1) hu (by omega) (by omega) h]
        · rw [List.length_nil]; omega
      have hl := Ls_len H n (u + 1) d (by omega) hd (by omega) (by omega)
      have hlt : (r - F u (d + 1)).toNat < (Ls F n (u + 1) d).length := by omega
      rw [List.getD_eq_getElem?_getD, List.getD_eq_getElem?_getD, List.getElem?_append_right (by omega), if_pos (by omega : 0 < F (u + 1) d), List.getElem?_map]
      rw [show r.toNat - (if 0 < F u (d + 1) then (Ls F n u (d + 1)).map (68 :: ·) else []).length = (r - F u (d + 1)).toNat from by omega]
      rw [List.getElem?_eq_getElem hlt]
      simp

theorem wayG_hn (k l a b : Int) : ∀ (n : Nat) (u d : Int), 0 ≤ u → 0 ≤ d → u ≤ a → d ≤ b → a + b - u - d = n → ¬ OutN k l u d → wayG (OutN k l) a b (n + 1) u d = Hn k l n u d a b
  | 0, u, d, h1, h2, hu, hd, hn, ho => by
    unfold wayG Hn
    rw [if_neg (by rintro (h | h | h) <;> first | omega | exact ho h), if_pos (by omega), if_pos (by omega)]
  | n + 1, u, d, h1, h2, hu, hd, hn, ho => by
    unfold wayG Hn
    rw [if_neg (by rintro (h | h | h) <;> first | omega | exact ho h), if_neg (by omega)]
    congr 1
    · by_cases c : l ≤ u + 1 - k * d
      · rw [if_pos c]
        by_cases g : u + 1 ≤ a
        · exact wayG_hn k l a b n (u + 1) d (by omega) h2 g hd (by omega) (by rintro ⟨_, h⟩; omega)
        · unfold wayG
          rw [if_pos (.inl (by omega)), Hn_out k l n (u + 1) d a b (.inl (by omega))]
      · rw [if_neg c]
        unfold wayG
        rw [if_pos (.inr (.inr ⟨by omega, by omega⟩))]
    · by_cases c : l ≤ u - k * (d + 1)
      · rw [if_pos c]
        by_cases g : d + 1 ≤ b
        · exact wayG_hn k l a b n u (d + 1) h1 (by omega) hu g (by omega) (by rintro ⟨_, h⟩; omega)
        · unfold wayG
          rw [if_pos (.inr (.inl (by omega))), Hn_out k l n u (d + 1) a b (.inr (by omega))]
      · rw [if_neg c]
        unfold wayG
        rw [if_pos (.inr (.inr ⟨by omega, by omega⟩))]
theorem Onf_gb (a b k l : Int) (hs : Steps a b) : Onf a b k l 0 0 = Gb k l a b := by
  have ⟨ha, hb, hab⟩ := hs
  unfold Onf
  rw [show wayF (fun u d => u + d > 0 ∧ u - k * d < l) a b 0 0 = wayG (OutN k l) a b (a + b + 1 - 0 - 0).toNat 0 0 from wayF_in _ ⟨hab, by omega, by omega⟩, show (a + b + 1 - 0 - 0).toNat = (a + b).toNat + 1 from by omega, wayG_hn k l a b _ 0 0 (by omega) (by omega) ha.1 hb.1 (by omega) (by rintro ⟨h, _⟩; omega)]
  rfl
theorem Onf_on (a b k l : Int) (hs : Steps a b) : OnF (OutN k l) a b (Onf a b k l) := wayF_on (OutN k l) a b hs.1.1 hs.2.1.1 hs.2.2

theorem Gb_ah (a b c : Int) (hs : Steps a b) (hc : 1 ≤ c ∧ c ≤ 5) : Gb c 1 a b = Ah a b c := by
  have ⟨ha, hb, hab⟩ := hs
  unfold Ah
  by_cases h0 : a + b = 0
  · rw [if_pos h0]
    obtain rfl : a = 0 := by omega
    obtain rfl : b = 0 := by omega
    exact Gb_zero c 1
  · rw [if_neg h0]
    have h := ballot1 c hc.1 ((a + b).toNat - 1) a b ha.1 hb.1 (by omega)
    by_cases g : a < c * b
    · rw [if_pos g, h.2 (by omega)]
    · rw [if_neg g, ← Cz_symm a b ha.1 hb.1, ← h.1 (by omega), Int.mul_tdiv_cancel_left _ (by omega)]
      have h1 := (Onf_on a b c 1 hs).le 0 0
      have h2 := (Onf_on a b c 1 hs).nn 0 0
      rw [Onf_gb a b c 1 hs] at h1 h2
      rw [w64 (by omega) (by omega)]

theorem wayF_of {out : Int → Int → Prop} [∀ u d, Decidable (out u d)] {A B : Int} {F : Int → Int → Int} (H : OnF out A B F) (hs : Steps A B) : WayF F A B where
  nn := H.nn
  step := fun u d hu hd hn hp => by
    have ⟨hA, hB, hAB⟩ := hs
    have hal := alive H hu (by omega) hd (by omega) hp
    rw [wF_step H hu hal.1 hA.2 hd hal.2.1 hB.2 hal.2.2 (by omega), Int.add_comm]
  stop := fun u d hu hd hn => by
    have ⟨hA, hB, hAB⟩ := hs
    rw [H.eq u d hu (by omega) hd (by omega)]
    by_cases c : u > A ∨ d > B ∨ out u d
    · rw [if_pos c]; exact .inl rfl
    · rw [if_neg c]
      have h1 : ¬ u > A := fun h => c (.inl h)
      have h2 : ¬ d > B := fun h => c (.inr (.inl h))
      rw [if_pos (by omega)]; exact .inr rfl
theorem AO_Ls {F : Int → Int → Int} {A B : Int} (H : WayF F A B) (hs : Steps A B) (h : ¬ F 0 0 > 300) : AO F (A + B) 300 = (if 0 < F 0 0 then (Ls F (A + B).toNat 0 0).map strOfNums else [], true) := by
  have ⟨hA, hB, hAB⟩ := hs
  unfold AO
  rw [if_neg h]
  congr 1
  have h0 := H.nn 0 0
  by_cases hp : 0 < F 0 0
  · rw [if_pos hp]
    have hl := Ls_len H (A + B).toNat 0 0 (by omega) (by omega) (by omega) hp
    refine List.ext_getElem (by rw [List.length_map, List.length_map, List.length_range]; omega) (fun i h1 h2 => ?_)
    rw [List.length_map, List.length_range] at h1
    rw [List.length_map] at h2
    rw [List.getElem_map, List.getElem_map, List.getElem_range]
    unfold TB
    rw [if_pos (by omega), tb_Ls H (A + B).toNat 0 0 (i : Int) [] (by omega) (by omega) (by omega) (by omega) (by omega)]
    show strOfNums ([] ++ _) = _
    rw [List.nil_append, Int.toNat_natCast, List.getD_eq_getElem?_getD, List.getElem?_eq_getElem h2]
    rfl
  · rw [if_neg hp, show (F 0 0).toNat = 0 from by omega]
    rfl

section
variable {A B k l : Int} {F : Int → Int → Int}
/-- Where the end is right, whatever is not out leads on. -/
theorem goes_on (H : OnF (OutN k l) A B F) (hk : 1 ≤ k) (hs : Steps A B) (hfin : l ≤ A - k * B) : ∀ (n : Nat) (u d : Int), 0 ≤ u → 0 ≤ d → u ≤ A → d ≤ B → u + d + n = A + B → l - 1 ≤ u - k * d → ¬ OutN k l u d → 0 < F u d
  | 0, u, d, hu, hd, h1, h2, hn, hm, ho => by
    have ⟨hA, hB, hAB⟩ := hs
    obtain rfl : u = A := by omega
    obtain rfl : d = B := by omega
    rw [wF_end H hu (by omega) hd (by omega) ho]; decide
  | n + 1, u, d, hu, hd, h1, h2, hn, hm, ho => by
    have ⟨hA, hB, hAB⟩ := hs
    rw [wF_step H hu h1 hA.2 hd h2 hB.2 ho (by omega)]
    have n1 := H.nn (u + 1) d
    have n2 := H.nn u (d + 1)
    by_cases c : u < A
    · have := goes_on H hk hs hfin n (u + 1) d (by omega) hd (by omega) h2 (by omega) (by omega) (by rintro ⟨_, h⟩; omega)
      omega
    · have hu' : u = A := by omega
      have hm : k * (d + 1) ≤ k * B := Int.mul_le_mul_of_nonneg_left (by omega) (by omega)
      have := goes_on H hk hs hfin n u (d + 1) hu (by omega) h1 (by omega) (by omega) (by omega) (by rintro ⟨_, h⟩; omega)
      omega
theorem Lk_Ls (H : OnF (OutN k l) A B F) (hk : 1 ≤ k) (hs : Steps A B) (hfin : l ≤ A - k * B) : ∀ (n : Nat) (u d : Int), 0 ≤ u → 0 ≤ d → u ≤ A → d ≤ B → u + d + n = A + B → l - 1 ≤ u - k * d → Lk k l n (A - u) (B - d) (u - k * d) = Ls F n u d
  | 0, _, _, _, _, _, _, _, _ => rfl
  | n + 1, u, d, hu, hd, h1, h2, hn, hm => by
    have ⟨hA, hB, hAB⟩ := hs
    have m1 : k * (d + 1) = k * d + k := by rw [Int.mul_add, Int.mul_one]
    simp only [Lk, Ls]
    congr 1
    · by_cases c : 0 < F u (d + 1)
      · have hal := alive H hu (by omega) (by omega) (by omega) c
        have hl : ¬ (u - k * (d + 1) < l) := fun h => hal.2.2 ⟨by omega, h⟩
        rw [if_pos c, if_pos ⟨by omega, by omega⟩]
        have := Lk_Ls H hk hs hfin n u (d + 1) hu (by omega) h1 hal.2.1 (by omega) (by omega)
        rw [show B - (d + 1) = B - d - 1 from by omega, show u - k * (d + 1) = u - k * d - k from by omega] at this
        rw [this]
      · rw [if_neg c, if_neg (fun h => c (goes_on H hk hs hfin n u (d + 1) hu (by omega) h1 (by omega) (by omega) (by omega) (by rintro ⟨_, g⟩; omega)))]
    · by_cases c : 0 < F (u + 1) d
      · have hal := alive H (by omega) (by omega) hd (by omega) c
        rw [if_pos c, if_pos (by omega)]
        have := Lk_Ls H hk hs hfin n (u + 1) d (by omega) hd hal.1 h2 (by omega) (by omega)
        rw [show A - (u + 1) = A - u - 1 from by omega, show u + 1 - k * d = u - k * d + 1 from by omega] at this
        rw [this]
      · rw [if_neg c, if_neg (fun h => c (goes_on H hk hs hfin n (u + 1) d (by omega) hd (by omega) h2 (by omega) (by omega) (by rintro ⟨_, g⟩; omega)))]
theorem LkTop_Ls (H : OnF (OutN k l) A B F) (hk : 1 ≤ k) (hl : l ≤ 1) (hs : Steps A B) (hz : 1 ≤ A + B → A - k * B < l → F 0 0 = 0) : LkTop k l A B = if 0 < F 0 0 then Ls F (A + B).toNat 0 0 else [] := by
  have ⟨hA, hB, hAB⟩ := hs
  have m0 : k * 0 = 0 := Int.mul_zero k
  have no : ¬ OutN k l 0 0 := by rintro ⟨h, _⟩; omega
  unfold LkTop
  by_cases h0 : A + B = 0
  · have a0 : A = 0 := by omega
    have b0 : B = 0 := by omega
    subst a0 b0
    have hp : F 0 0 = 1 := wF_end H (by omega) (by omega) (by omega) (by omega) no
    rw [if_pos (.inl rfl), if_pos (by omega)]
    rfl
  · by_cases hf : l ≤ A - k * B
    · have hp := goes_on H hk hs hf (A + B).toNat 0 0 (by omega) (by omega) hA.1 hB.1 (by omega) (by omega) no
      rw [if_pos (.inr hf), if_pos hp]
      have := Lk_Ls H hk hs hf (A + B).toNat 0 0 (by omega) (by omega) hA.1 hB.1 (by omega) (by omega)
      rw [m0, show A - 0 = A from by omega, show B - 0 = B from by omega, show (0 : Int) - 0 = 0 from rfl] at this
      exact this
    · rw [if_neg (by rintro (h | h); exact h0 h; exact hf h), if_neg (by rw [hz (by omega) (by omega)]; decide)]
end

theorem strOfNums_one (x : Int) : (strOfNums [x]).size = 1 := rfl
theorem markText_ev (n : Nat) (hn : n ≤ 1000000) : ∃ r, Ev (fun k => laws_markText.f k (n : Int)) r := by
  have key : ∀ (m n : Nat) (x : ByteArray), n ≤ m → n + x.size ≤ 2000000 → ∃ r, Ev (fun k => laws_markText.l0 k (n : Int) x) r := by
    intro m
    induction m with
    | zero =>
      intro n x h hx
      refine ⟨(⟨#[109]⟩ : ByteArray) ++ x, Ev.s ?_⟩
      have c : ¬ ((n : Int) > 0) := by omega
      have c2 : 1 + x.size ≤ 9223372036854775807 := by omega
      simp only [laws_markText.l0, if_neg c, if_pos c2]
      exact Ev.now _
    | succ m ih =>
      intro n x h hx
      by_cases c : (n : Int) > 0
      · have e : Int.tdiv (n : Int) 10 = ((n / 10 : Nat) : Int) := by rw [Int.tdiv_eq_ediv_of_nonneg (by omega)]; omega
        have sz : (strOfNums [(wrap64 (48 + (Int.tmod (n : Int) 10))) % 256] ++ x).size = 1 + x.size := by rw [ByteArray.size_append, strOfNums_one]
        obtain ⟨r, hr⟩ := ih (n / 10) (strOfNums [(wrap64 (48 + (Int.tmod (n : Int) 10))) % 256] ++ x) (by omega) (by rw [sz]; omega)
        refine ⟨r, Ev.s ?_⟩
        have c2 : (strOfNums [(wrap64 (48 + (Int.tmod (n : Int) 10))) % 256]).size + x.size ≤ 9223372036854775807 := by rw [strOfNums_one]; omega
        have w := wnatM (n / 10) (by omega)
        simp only [laws_markText.l0, if_pos c, Option.bind_some, if_pos c2, e, w]
        exact hr
      · refine ⟨(⟨#[109]⟩ : ByteArray) ++ x, Ev.s ?_⟩
        have c2 : 1 + x.size ≤ 9223372036854775807 := by omega
        simp only [laws_markText.l0, if_neg c, if_pos c2]
        exact Ev.now _
  unfold laws_markText.f
  by_cases c : (n : Int) ≤ 0
  · simp only [if_pos c]; exact ⟨_, Ev.now _⟩
  · simp only [if_neg c]; exact key n n _ (Nat.le_refl _) (by show n + 0 ≤ 2000000; omega)
theorem markText_fn : ∃ f : Nat → ByteArray, ∀ n : Nat, n ≤ 1000000 → Ev (fun k => laws_markText.f k (n : Int)) (f n) :=
  ⟨fun n => if h : n ≤ 1000000 then (markText_ev n h).choose else ⟨#[]⟩, fun n h => by
    show Ev _ (if h : n ≤ 1000000 then (markText_ev n h).choose else ⟨#[]⟩)
    rw [dif_pos h]; exact (markText_ev n h).choose_spec⟩
theorem rdOf_get (d : ByteArray) (l : List ByteArray) (i : Nat) (h : i < l.length) : rdOf d l (i : Int) = l[i] := by
  unfold rdOf
  rw [Int.toNat_natCast, List.getD_eq_getElem?_getD, List.getElem?_eq_getElem h]
  rfl
theorem eqStringS_ev (l : List ByteArray) (hn : l.length ≤ 1000000) : Ev (fun k => laws_eqStringS.f k l l) true := by
  have key : ∀ (d i : Nat), i + d = l.length → Ev (fun k => laws_eqStringS.l0 k l l (i : Int)) true := by
    intro d
    induction d with
    | zero =>
      intro i hi
      refine Ev.s ?_
      have c : ¬ ((i : Int) < (l.length : Int)) := by omega
      simp only [laws_eqStringS.l0, if_neg c]
      exact Ev.now _
    | succ d ih =>
      intro i hi
      refine Ev.s ?_
      have c1 : ((i : Int) < (l.length : Int)) := by omega
      have c2 : (0 : Int) ≤ (i : Int) := by omega
      simp only [laws_eqStringS.l0, if_pos c1, if_pos c2, if_true, wsucc i l.length (by omega) (by omega)]
      exact ih (i + 1) (by omega)
  unfold laws_eqStringS.f
  simp only [if_true]
  exact key l.length 0 (by omega)
/-- The marks of a row of texts. -/
def upT (f : Nat → ByteArray) : Nat → List ByteArray
  | 0 => []
  | n + 1 => upT f n ++ [f (n + 1)]
theorem upT_len (f : Nat → ByteArray) : ∀ n, (upT f n).length = n
  | 0 => rfl
  | n + 1 => by rw [upT, List.length_append, upT_len f n, List.length_singleton]
theorem upT_get (f : Nat → ByteArray) : ∀ (n i : Nat) (h : i < (upT f n).length), (upT f n)[i] = f (i + 1)
  | n + 1, i, h => by
    rw [upT_len] at h
    by_cases c : i = n
    · subst c
      simp only [upT]
      rw [List.getElem_append_right (by rw [upT_len]; exact Nat.le_refl _)]
      simp
    · simp only [upT]
      rw [List.getElem_append_left (by rw [upT_len]; omega)]
      exact upT_get f n i _
theorem markStringS_ev (f : Nat → ByteArray) (hf : ∀ n : Nat, n ≤ 1000000 → Ev (fun k => laws_markText.f k (n : Int)) (f n)) (l : List ByteArray) (hl : l.length ≤ 999999) : Ev (fun k => laws_markStringS.f k l 1) (1 + (l.length : Int), upT f l.length) := by
  have key : ∀ (d i : Nat) (m : List ByteArray), i + d = l.length → m.length = l.length → m.take i = upT f i → Ev (fun k => laws_markStringS.l0 k m ((i + 1 : Nat) : Int) (i : Int)) (1 + (l.length : Int), upT f l.length) := by
    intro d
    induction d with
    | zero =>
      intro i m hi hm ht
      refine Ev.s ?_
      have c : ¬ ((i : Int) < (m.length : Int)) := by omega
      simp only [laws_markStringS.l0, if_neg c]
      rw [List.take_of_length_le (by omega)] at ht
      rw [ht, show i = l.length from by omega, show ((l.length + 1 : Nat) : Int) = 1 + (l.length : Int) from by omega]
      exact Ev.now _
    | succ d ih =>
      intro i m hi hm ht
      refine Ev.s ?_
      have c1 : ((i : Int) < (m.length : Int)) := by omega
      have c2 : (0 : Int) ≤ (i : Int) := by omega
      have hnext := ih (i + 1) (m.set i (f (i + 1))) (by omega) (by simpa using hm) (by
        rw [List.take_succ_eq_append_getElem (by simp; omega), List.take_set_of_le (by omega), ht, upT]
        simp)
      have e := wsucc i l.length (by omega) (by omega)
      have e2 := wsucc (i + 1) 1000000 (by omega) (by omega)
      simp only [laws_markStringS.l0, if_pos c1, if_pos c2, e, e2, Int.toNat_natCast]
      exact Ev.bs (hf (i + 1) (by omega)) hnext
  exact key l.length 0 l (by omega) rfl rfl
theorem heldStringS_ev (f : Nat → ByteArray) (hf : ∀ n : Nat, n ≤ 1000000 → Ev (fun k => laws_markText.f k (n : Int)) (f n)) (n : Nat) (hn : n ≤ 999999) : Ev (fun k => laws_heldStringS.f k (upT f n) 1) (1 + (n : Int)) := by
  have key : ∀ (d i : Nat), i + d = n → Ev (fun k => laws_heldStringS.l0 k (upT f n) ((i + 1 : Nat) : Int) (i : Int)) (1 + (n : Int)) := by
    intro d
    induction d with
    | zero =>
      intro i hi
      refine Ev.s ?_
      have c : ¬ ((i : Int) < ((upT f n).length : Int)) := by rw [upT_len]; omega
      simp only [laws_heldStringS.l0, if_neg c]
      rw [show ((i + 1 : Nat) : Int) = 1 + (n : Int) from by omega]
      exact Ev.now _
    | succ d ih =>
      intro i hi
      refine Ev.s ?_
      have c1 : ((i : Int) < ((upT f n).length : Int)) := by rw [upT_len]; omega
      have c2 : (0 : Int) ≤ (i : Int) := by omega
      have c3 : rdOf ByteArray.empty (upT f n) (i : Int) = f (i + 1) := by rw [rdOf_get _ _ _ (by rw [upT_len]; omega)]; exact upT_get f n i _
      have hnext := ih (i + 1) (by omega)
      have hfi := hf (i + 1) (by omega)
      have e := wsucc i n (by omega) (by omega)
      have e2 := wsucc (i + 1) 1000000 (by omega) (by omega)
      simp only [laws_heldStringS.l0, if_pos c1, if_pos c2, c3]
      refine Ev.bs hfi ?_
      simp only [if_true, e, e2]
      exact hnext
  exact key n 0 (by omega)

theorem AllAhead_frame (a b c : Int) (v : List ByteArray) (t : Bool) (hv : v.length ≤ 999999) (e1 : Ev (fun k => spec_AllAhead.f k a b c) (v, t)) (e2 : impl_AllAhead.f a b c = some (v, t)) : Ev (fun k => laws_FnExactAllAhead.f k a b c) true := by
  obtain ⟨f, hf⟩ := markText_fn
  have hh := heldStringS_ev f hf v.length hv
  unfold laws_FnExactAllAhead.f
  refine Ev.bs e1 ?_
  simp only [e2, Option.bind_some]
  refine Ev.bs (eqStringS_ev v (by omega)) ?_
  simp only [if_true, bne_self_eq_false]
  refine Ev.s ?_
  simp only [laws_FnExactAllAhead.j0, Bool.false_eq_true, if_false]
  refine Ev.bs (markStringS_ev f hf v hv) (Ev.bs hh ?_)
  have c1 : ¬ (1 + (v.length : Int) < 0) := by omega
  simp only [if_neg c1, if_true, e2, Option.bind_some]
  refine Ev.bs (eqStringS_ev v (by omega)) ?_
  simp only [if_true, bne_self_eq_false]
  refine Ev.s ?_
  simp only [laws_FnExactAllAhead.j1, Bool.false_eq_true, if_false]
  refine Ev.bs hh ?_
  simp only [if_neg c1, if_true]
  exact Ev.now _
theorem FnExactAllAhead : laws_FnExactAllAhead.Pure := by
  intro a b c _ _ _
  refine Ev.rounds ?_
  by_cases h1 : Steps a b ∧ 1 ≤ c ∧ c ≤ 5
  · have ⟨hs, hc⟩ := h1
    have ⟨ha, hb, hab⟩ := hs
    have H := Onf_on a b c 1 hs
    have e0 : Ah a b c = Onf a b c 1 0 0 := by rw [Onf_gb a b c 1 hs, Gb_ah a b c hs hc]
    have hz : 1 ≤ a + b → a - c * b < 1 → Onf a b c 1 0 0 = 0 := fun h g => by
      rw [Onf_gb a b c 1 hs, Gb_step c 1 a b ⟨ha.1, hb.1, h⟩, if_neg (by omega)]
    have eL := LkTop_Ls H hc.1 (by omega) hs hz
    have i0 : impl_AllAhead.f a b c = some (AO (Onf a b c 1) (a + b) 300) := by
      unfold impl_AllAhead.f
      simp only [areVotes_eq, Option.bind_some, decide_eq_true h1, if_true]
    by_cases hq : Onf a b c 1 0 0 > 300
    · refine AllAhead_frame a b c [] false (by simp) ?_ (by rw [i0]; unfold AO; rw [if_pos hq])
      unfold spec_AllAhead.f
      simp only [baNumbers_eq, Option.bind_some, decide_eq_true h1, if_true]
      refine Ev.bs (baAhead_ev a b c hs hc) ?_
      rw [e0]
      simp only [if_pos hq]
      exact Ev.now _
    · have hA := AO_Ls (wayF_of H hs) hs hq
      have hlen : (LkTop c 1 a b).length ≤ 300 := by
        rw [eL]
        by_cases hp : 0 < Onf a b c 1 0 0
        · rw [if_pos hp]
          have := Ls_len (wayF_of H hs) (a + b).toNat 0 0 (by omega) (by omega) (by omega) hp
          omega
        · rw [if_neg hp]; simp
      have hm : (LkTop c 1 a b).map strOfNums = (if 0 < Onf a b c 1 0 0 then (Ls (Onf a b c 1) (a + b).toNat 0 0).map strOfNums else []) := by
        rw [eL]; split <;> rfl
      refine AllAhead_frame a b c ((LkTop c 1 a b).map strOfNums) true (by rw [List.length_map]; omega) ?_ (by rw [i0, hA, hm])
      unfold spec_AllAhead.f
      simp only [baNumbers_eq, Option.bind_some, decide_eq_true h1, if_true]
      refine Ev.bs (baAhead_ev a b c hs hc) ?_
      rw [e0]
      simp only [if_neg hq, if_pos hlen]
      exact Ev.now _
  · refine AllAhead_frame a b c [] false (by simp) ?_ ?_
    · unfold spec_AllAhead.f
      simp only [baNumbers_eq, Option.bind_some, decide_eq_false h1, Bool.false_eq_true, if_false]
      exact Ev.now _
    · unfold impl_AllAhead.f
      simp only [areVotes_eq, Option.bind_some, decide_eq_false h1, Bool.false_eq_true, if_false]

end Go.Proofs.Ytblofikjcmjaeaa.Pure
