/- The plain law of the statement FnExactNeverBehindOfRank: what the program's function computes is what the reference's computes, for all arguments; no condition. -/
import Derived.Test.YtblofikjcmjaeaaPFnExactNeverBehindOfRankx5
namespace Go.Proofs.Ytblofikjcmjaeaa.Pure
open Go.RowKit Go.Proofs.Ytblofikjcmjaeaa.PFnExactNeverBehindOfRank Go.Proofs.YtblofikjcmjaeaaW.PrintWords Go.Proofs.YtblofikjcmjaeaaW.PrintLast Go.Proofs.YtblofikjcmjaeaaW.PrintMore

def C : Nat → Nat → Nat
  | _, 0 => 1
  | 0, _ + 1 => 0
  | n + 1, k + 1 => C n k + C n (k + 1)
theorem C_zero (n : Nat) : C n 0 = 1 := by cases n <;> rfl
theorem C_zs (k : Nat) : C 0 (k + 1) = 0 := rfl
theorem C_ss (n k : Nat) : C (n + 1) (k + 1) = C n k + C n (k + 1) := rfl
theorem C_lt : ∀ (n k : Nat), n < k → C n k = 0
  | 0, k + 1, _ => rfl
  | n + 1, k + 1, h => by rw [C_ss, C_lt n k (by omega), C_lt n (k + 1) (by omega)]
theorem C_self : ∀ n : Nat, C n n = 1
  | 0 => rfl
  | n + 1 => by rw [C_ss, C_self n, C_lt n (n + 1) (by omega)]
theorem C_pos : ∀ (n k : Nat), k ≤ n → 1 ≤ C n k
  | n, 0, _ => by rw [C_zero]; omega
  | n + 1, k + 1, h => by rw [C_ss]; have := C_pos n k (by omega); omega
theorem C_absorb : ∀ (n k : Nat), C (n + 1) (k + 1) * (k + 1) = (n + 1) * C n k
  | 0, 0 => rfl
  | 0, k + 1 => by rw [C_lt 1 (k + 2) (by omega), C_lt 0 (k + 1) (by omega)]; omega
  | n + 1, 0 => by
    have h := C_absorb n 0
    rw [C_ss, C_zero] ; rw [C_zero] at h; omega
  | n + 1, k + 1 => by
    have h1 := C_absorb n k
    have h2 := C_absorb n (k + 1)
    rw [C_ss (n + 1) (k + 1)]
    rw [C_ss n k] at h1 ⊢
    grind
theorem C_step (n k : Nat) (h : k ≤ n) : C n (k + 1) * (k + 1) = C n k * (n - k) := by
  have h1 := C_absorb n k
  rw [C_ss] at h1
  obtain ⟨d, rfl⟩ : ∃ d, n = k + d := ⟨n - k, by omega⟩
  rw [Nat.add_sub_cancel_left]
  grind
theorem C_symm : ∀ (n k : Nat), k ≤ n → C n (n - k) = C n k
  | 0, 0, _ => rfl
  | n + 1, 0, _ => by rw [Nat.sub_zero, C_self, C_zero]
  | n + 1, k + 1, h => by
    by_cases e : k = n
    · subst e; rw [Nat.sub_self, C_zero, C_self]
    · have h1 := C_symm n k (by omega)
      have h2 := C_symm n (k + 1) (by omega)
      have e1 : n + 1 - (k + 1) = (n - (k + 1)) + 1 := by omega
      rw [e1, C_ss, C_ss, h2]
      have e2 : n - (k + 1) + 1 = n - k := by omega
      rw [e2, h1]; omega
theorem C_le : ∀ (n k : Nat), C n k ≤ 2 ^ n
  | n, 0 => by rw [C_zero]; exact Nat.one_le_two_pow
  | 0, k + 1 => by rw [C_zs]; omega
  | n + 1, k + 1 => by
    rw [C_ss, Nat.pow_succ]
    cases n with
    | zero => cases k with
      | zero => decide
      | succ k => simp [C]
    | succ m =>
      have h1 := C_le (m+1) k
      have h2 := C_le (m+1) (k + 1)
      omega
theorem C_le40 (n k : Nat) (h : n ≤ 40) : C n k ≤ 1099511627776 := by
  have h1 := C_le n k
  have h2 : 2 ^ n ≤ 2 ^ 40 := Nat.pow_le_pow_right (by omega) h
  omega

theorem Ev.s {α : Type} {g : Nat → Option α} {r : α} (h : Ev (fun k => g (k + 1)) r) : Ev g r := by
  obtain ⟨K, hK⟩ := h
  refine ⟨K + 1, fun k hk => ?_⟩
  obtain ⟨m, rfl⟩ : ∃ m, k = m + 1 := ⟨k - 1, by omega⟩
  exact hK m (by omega)
theorem Ev.c {α : Type} {o : Option α} {r : α} (h : o = some r) : Ev (fun _ => o) r := ⟨0, fun _ _ => h⟩
theorem Ev.u {α : Type} {g : Nat → Option α} {r r' : α} (h : Ev g r) (h' : Ev g r') : r = r' := by
  obtain ⟨K, hK⟩ := h
  obtain ⟨K', hK'⟩ := h'
  have a := hK (max K K') (by omega)
  have b := hK' (max K K') (by omega)
  rw [a] at b
  exact Option.some.inj b
theorem Ev.e {α : Type} {g : Nat → Option α} {r r' : α} (h : Ev g r) (e : r = r') : Ev g r' := e ▸ h
theorem Ev.bs {α β : Type} {g : Nat → Option α} {f : Nat → α → Option β} {a : α} {r : β} (h : Ev g a) (k : Ev (fun n => f n a) r) : Ev (fun n => Option.bind (g n) (f n)) r := Ev.bind h k
theorem w64 {n : Int} (h : -9223372036854775808 ≤ n) (h' : n ≤ 9223372036854775807) : wrap64 n = n := by unfold wrap64; omega
theorem rd_set (l : List Int) (i j : Int) (v : Int) (hi : 0 ≤ i) (hj : 0 ≤ j) (hl : i < (l.length : Int)) : rd (l.set i.toNat v) j = if i = j then v else rd l j := by
  unfold rd
  rw [List.getD_eq_getElem?_getD, List.getD_eq_getElem?_getD, List.getElem?_set]
  by_cases e : i = j
  · subst e; rw [if_pos rfl, if_pos rfl, if_pos (by omega)]; rfl
  · rw [if_neg (by omega), if_neg e]

theorem in_eq (a b c : Int) : impl_in.f a b c = some (decide (b ≤ a ∧ a ≤ c)) := by
  unfold impl_in.f
  by_cases h : b ≤ a
  · rw [if_pos h]; simp [h]
  · rw [if_neg h]; simp [h]

theorem l1In_eq (a b c : Int) : spec_l1In.f a b c = some (decide (b ≤ a ∧ a ≤ c)) := by
  unfold spec_l1In.f
  by_cases h : a ≥ b
  · rw [if_pos h]; simp [h]
  · rw [if_neg h]; simp [h]

def Cz (n j : Int) : Int := if 0 ≤ j ∧ j ≤ n then (C n.toNat j.toNat : Int) else 0
theorem Cz_nat (n j : Nat) : Cz (n : Int) (j : Int) = (C n j : Int) := by
  unfold Cz
  by_cases h : j ≤ n
  · rw [if_pos (by omega)]; simp
  · rw [if_neg (by omega), C_lt n j (by omega)]; rfl
theorem Cz_le (n j : Int) (hn : n ≤ 40) : 0 ≤ Cz n j ∧ Cz n j ≤ 1099511627776 := by
  unfold Cz
  split
  · have := C_le40 n.toNat j.toNat (by omega); omega
  · omega
theorem Cz_symm (a b : Int) (ha : 0 ≤ a) (hb : 0 ≤ b) : Cz (a + b) b = Cz (a + b) a := by
  unfold Cz
  rw [if_pos (by omega), if_pos (by omega)]
  have h := C_symm (a + b).toNat a.toNat (by omega)
  rw [show (a + b).toNat - a.toNat = b.toNat from by omega] at h
  rw [h]

theorem l1Least_eq (a b : Int) : spec_l1Least.f a b = some (min a b) := by
  unfold spec_l1Least.f
  by_cases h : a < b
  · rw [if_pos h]; congr 1; omega
  · rw [if_neg h]; congr 1; omega
def PRow (J : Nat) (l : List Int) (i j : Nat) : Prop :=
  l.length = J + 1 ∧ ∀ t : Nat, t ≤ J → rd l (t : Int) = if j < t then (C (i + 1) t : Int) else (C i t : Int)
theorem pa_l1 (n J : Nat) (hn : n ≤ 40) (hJ : J ≤ 40) (i : Nat) (hi : i < n) (j : Nat) : ∀ (l : List Int), j ≤ J → PRow J l i j →
    ∃ l', PRow J l' i 0 ∧ ∀ r, Ev (fun k => spec_paChoose.l0 k (n : Int) (J : Int) l' ((i + 2 : Nat) : Int)) r → Ev (fun k => spec_paChoose.l1 k (n : Int) (J : Int) l ((i + 1 : Nat) : Int) (j : Int)) r := by
  induction j with
  | zero =>
    intro l _ hl
    refine ⟨l, hl, fun r h => ?_⟩
    refine Ev.s ?_
    have e : wrap64 (((i + 1 : Nat) : Int) + 1) = ((i + 2 : Nat) : Int) := by rw [w64 (by omega) (by omega)]; omega
    have hz : ¬ (((0 : Nat) : Int) > 0) := by omega
    simp only [spec_paChoose.l1, if_neg hz, e]
    exact h
  | succ j ih =>
    intro l hj hl
    obtain ⟨hlen, hl⟩ := hl
    have a1 := hl (j + 1) hj
    have a2 := hl j (by omega)
    rw [if_neg (by omega)] at a1 a2
    have b1 := C_le40 i (j + 1) (by omega)
    have b2 := C_le40 i j (by omega)
    have e1 : wrap64 (((j + 1 : Nat) : Int) - 1) = (j : Int) := by rw [w64 (by omega) (by omega)]; omega
    have e2 : wrap64 ((C i (j + 1) : Int) + (C i j : Int)) = (C (i + 1) (j + 1) : Int) := by rw [w64 (by omega) (by omega), C_ss]; omega
    obtain ⟨l', h', hr⟩ := ih (l.set ((j + 1 : Nat) : Int).toNat (C (i + 1) (j + 1) : Int)) (by omega) (by
      refine ⟨by simpa using hlen, fun t ht => ?_⟩
      rw [rd_set _ _ _ _ (by omega) (by omega) (by omega)]
      by_cases e : ((j + 1 : Nat) : Int) = (t : Int)
      · have : t = j + 1 := by omega
        subst this
        rw [if_pos rfl, if_pos (by omega)]
      · rw [if_neg e, hl t ht]
        by_cases c : j < t
        · rw [if_pos c, if_pos (by omega)]
        · rw [if_neg c, if_neg (by omega)])
    refine ⟨l', h', fun r h => ?_⟩
    refine Ev.s ?_
    have c1 : ((j + 1 : Nat) : Int) > 0 := by omega
    have c2 : (0 : Int) ≤ ((j + 1 : Nat) : Int) := by omega
    have c3 : ((j + 1 : Nat) : Int) < (l.length : Int) := by omega
    have c4 : (0 : Int) ≤ (j : Int) := by omega
    have c5 : (j : Int) < (l.length : Int) := by omega
    simp only [spec_paChoose.l1, e1, a1, a2, e2, if_pos c1, if_pos c2, if_pos c3, if_pos c4, if_pos c5]
    exact hr r h
theorem pa_l0 (n J : Nat) (hn : n ≤ 40) (hJ : J ≤ 40) (d : Nat) : ∀ (i : Nat) (l : List Int), i + d = n → PRow J l i J →
    Ev (fun k => spec_paChoose.l0 k (n : Int) (J : Int) l ((i + 1 : Nat) : Int)) (C n J : Int) := by
  induction d with
  | zero =>
    intro i l hi hl
    obtain rfl : i = n := by omega
    obtain ⟨hlen, hl⟩ := hl
    have a := hl J (Nat.le_refl _)
    rw [if_neg (by omega)] at a
    refine Ev.s ?_
    have c1 : ¬ (((i + 1 : Nat) : Int) ≤ (i : Int)) := by omega
    have c2 : (0 : Int) ≤ (J : Int) := by omega
    have c3 : (J : Int) < (l.length : Int) := by omega
    simp only [spec_paChoose.l0, if_neg c1, if_pos c2, if_pos c3, a]
    exact Ev.now _
  | succ d ih =>
    intro i l hi hl
    have hmin : min (((i + 1 : Nat) : Int)) (J : Int) = ((min (i + 1) J : Nat) : Int) := by omega
    have hl2 : PRow J l i (min (i + 1) J) := by
      refine ⟨hl.1, fun t ht => ?_⟩
      have := hl.2 t ht
      rw [if_neg (by omega)] at this
      by_cases c : min (i + 1) J < t
      · rw [if_pos c, this, C_lt i t (by omega), C_lt (i + 1) t (by omega)]
      · rw [if_neg c, this]
    obtain ⟨l', h', hr⟩ := pa_l1 n J hn hJ i (by omega) (min (i + 1) J) l (by omega) hl2
    refine Ev.s ?_
    have c1 : (((i + 1 : Nat) : Int) ≤ (n : Int)) := by omega
    simp only [spec_paChoose.l0, if_pos c1, l1Least_eq, Option.bind_some, hmin]
    refine hr _ (ih (i + 1) l' (by omega) ⟨h'.1, fun t ht => ?_⟩)
    have := h'.2 t ht
    rw [if_neg (by omega), this]
    by_cases c : 0 < t
    · rw [if_pos c]
    · rw [if_neg c]; obtain rfl : t = 0 := by omega
      rw [C_zero, C_zero]
theorem paChoose_ev (n j : Int) (hn : n ≤ 40) : Ev (fun k => spec_paChoose.f k n j) (Cz n j) := by
  unfold spec_paChoose.f
  by_cases h0 : j < 0
  · simp only [if_pos h0]
    refine Ev.s ?_
    simp only [spec_paChoose.j0, if_true]
    have : Cz n j = 0 := by unfold Cz; rw [if_neg (by omega)]
    rw [this]; exact Ev.now _
  · simp only [if_neg h0]
    refine Ev.s ?_
    by_cases h1 : j > n
    · simp only [spec_paChoose.j0, decide_eq_true h1, if_true]
      have : Cz n j = 0 := by unfold Cz; rw [if_neg (by omega)]
      rw [this]; exact Ev.now _
    · have e1 : wrap64 (j + 1) = j + 1 := by rw [w64 (by omega) (by omega)]
      obtain ⟨J, rfl⟩ : ∃ J : Nat, j = (J : Int) := ⟨j.toNat, by omega⟩
      obtain ⟨N, rfl⟩ : ∃ N : Nat, n = (N : Int) := ⟨n.toNat, by omega⟩
      have e2 : ((J : Int) + 1).toNat = J + 1 := by omega
      have c1 : (0 : Int) ≤ (J : Int) + 1 := by omega
      have c2 : J + 1 ≤ 35184372088832 := by omega
      have c3 : (0 : Int) < ((List.replicate (J + 1) (0 : Int)).length : Int) := by rw [List.length_replicate]; omega
      have hb : decide ((J : Int) > (N : Int)) = false := decide_eq_false h1
      simp only [spec_paChoose.j0, hb, e1, e2, if_pos c1, if_pos c2, Option.bind_some, if_pos c3, Bool.false_eq_true, if_false]
      rw [Cz_nat]
      refine pa_l0 N J (by omega) (by omega) N 0 _ (by omega) ⟨by simp, fun t ht => ?_⟩
      have h0 : ¬ (J < t) := by omega
      have hr : ∀ u : Nat, rd (List.replicate (J + 1) (0 : Int)) (u : Int) = 0 := by
        intro u
        unfold rd
        rw [List.getD_eq_getElem?_getD, List.getElem?_replicate]
        split <;> rfl
      rw [rd_set _ _ _ _ (by omega) (by omega) c3]
      simp only [if_neg h0]
      by_cases e : (0 : Int) = (t : Int)
      · obtain rfl : t = 0 := by omega
        simp [C_zero]
      · obtain ⟨s, rfl⟩ : ∃ s, t = s + 1 := ⟨t - 1, by omega⟩
        simp only [if_neg e, C_zs]
        exact hr _

def Steps (a b : Int) : Prop := (0 ≤ a ∧ a ≤ 40) ∧ (0 ≤ b ∧ b ≤ 40) ∧ a + b ≤ 40
instance (a b : Int) : Decidable (Steps a b) := by unfold Steps; infer_instance
theorem paSteps_eq (a b : Int) : spec_paSteps.f a b = some (decide (Steps a b)) := by
  unfold spec_paSteps.f Steps
  simp only [l1In_eq, Option.bind_some, decide_eq_true_eq]
  by_cases ha : 0 ≤ a ∧ a ≤ 40
  · by_cases hb : 0 ≤ b ∧ b ≤ 40
    · rw [w64 (by omega) (by omega)]; simp [ha, hb]
    · simp [ha, hb]
  · simp [ha]
theorem areSteps_eq (a b : Int) : impl_areSteps.f a b = some (decide (Steps a b)) := by
  unfold impl_areSteps.f Steps
  simp only [in_eq, Option.bind_some, decide_eq_true_eq]
  by_cases ha : 0 ≤ a ∧ a ≤ 40
  · by_cases hb : 0 ≤ b ∧ b ≤ 40
    · rw [w64 (by omega) (by omega)]; simp [ha, hb]
    · simp [ha, hb]
  · simp [ha]

theorem baNumbers_eq (a b c : Int) : spec_baNumbers.f a b c = some (decide (Steps a b ∧ 1 ≤ c ∧ c ≤ 5)) := by
  unfold spec_baNumbers.f
  simp only [paSteps_eq, l1In_eq, Option.bind_some, decide_eq_true_eq]
  by_cases h : Steps a b <;> simp [h]
theorem areVotes_eq (a b c : Int) : impl_areVotes.f a b c = some (decide (Steps a b ∧ 1 ≤ c ∧ c ≤ 5)) := by
  unfold impl_areVotes.f
  simp only [areSteps_eq, in_eq, Option.bind_some, decide_eq_true_eq]
  by_cases h : Steps a b <;> simp [h]
theorem mul5 (b c : Int) (hb : 0 ≤ b ∧ b ≤ 40) (hc : 1 ≤ c ∧ c ≤ 5) : 0 ≤ c * b ∧ c * b ≤ 200 := by
  obtain ⟨n, rfl⟩ : ∃ n : Nat, b = (n : Int) := ⟨b.toNat, by omega⟩
  have : c = 1 ∨ c = 2 ∨ c = 3 ∨ c = 4 ∨ c = 5 := by omega
  rcases this with rfl | rfl | rfl | rfl | rfl <;> omega
theorem mul_big (x y : Int) (h0 : 0 ≤ x) (h1 : x ≤ 300) (h2 : 0 ≤ y) (h3 : y ≤ 1099511627776) : 0 ≤ x * y ∧ x * y ≤ 300 * 1099511627776 :=
  ⟨Int.mul_nonneg h0 h2, Int.mul_le_mul h1 h3 h2 (by omega)⟩

/-- What `behindNever` comes to. -/
def Nv (a b c : Int) : Int := if a < c * b then 0 else wrap64 (Int.tdiv ((a + 1 - c * b) * Cz (a + b) a) (a + 1))
theorem baNever_ev (a b c : Int) (hs : Steps a b) (hc : 1 ≤ c ∧ c ≤ 5) : Ev (fun k => spec_baNever.f k a b c) (Nv a b c) := by
  obtain ⟨ha, hb, hab⟩ := hs
  have hm := mul5 b c hb hc
  have e1 : wrap64 (c * b) = c * b := w64 (by omega) (by omega)
  have e2 : wrap64 (a + b) = a + b := w64 (by omega) (by omega)
  have e3 : wrap64 (a + 1) = a + 1 := w64 (by omega) (by omega)
  have e4 : wrap64 (a + 1 - c * b) = a + 1 - c * b := w64 (by omega) (by omega)
  have hz : ¬ (a + 1 = 0) := by omega
  unfold spec_baNever.f Nv
  simp only [e1, e2, e3, e4, if_neg hz]
  by_cases h : a < c * b
  · simp only [if_pos h]; exact Ev.now _
  · simp only [if_neg h]
    refine Ev.bs (paChoose_ev _ _ hab) ?_
    have hz2 := Cz_le (a + b) a hab
    have hz3 := mul_big (a + 1 - c * b) (Cz (a + b) a) (by omega) (by omega) hz2.1 hz2.2
    rw [Int.mul_comm (Cz (a + b) a), w64 (n := (a + 1 - c * b) * Cz (a + b) a) (by omega) (by omega)]
    exact Ev.now _

theorem Cz_pascal (n j : Int) (hn : 0 ≤ n) : Cz (n + 1) j = Cz n (j - 1) + Cz n j := by
  unfold Cz
  by_cases h0 : 0 ≤ j
  · by_cases h1 : j = 0
    · subst h1
      rw [if_pos (by omega), if_neg (by omega), if_pos (by omega), Int.toNat_zero, C_zero, C_zero]; rfl
    · obtain ⟨m, rfl⟩ : ∃ m : Nat, j = (m : Int) + 1 := ⟨(j - 1).toNat, by omega⟩
      obtain ⟨N, rfl⟩ : ∃ N : Nat, n = (N : Int) := ⟨n.toNat, by omega⟩
      have e1 : ((N : Int) + 1).toNat = N + 1 := by omega
      have e2 : ((m : Int) + 1).toNat = m + 1 := by omega
      have e3 : ((m : Int) + 1 - 1).toNat = m := by omega
      rw [e1, e2, e3, Int.toNat_natCast, C_ss]
      by_cases c : m ≤ N
      · by_cases c2 : m + 1 ≤ N
        · rw [if_pos (by omega), if_pos (by omega), if_pos (by omega)]; omega
        · rw [if_pos (by omega), if_pos (by omega), if_neg (by omega), C_lt N (m + 1) (by omega)]; omega
      · rw [if_neg (by omega), if_neg (by omega), if_neg (by omega)]; rfl
  · rw [if_neg (by omega), if_neg (by omega), if_neg (by omega)]; rfl

/-- How many ways of n steps lead from (u, d) to (a, b), each point behind a step with a lead of at least l. -/
def Hn (k l : Int) : Nat → Int → Int → Int → Int → Int
  | 0, u, d, a, b => if u = a ∧ d = b then 1 else 0
  | n + 1, u, d, a, b => (if l ≤ u + 1 - k * d then Hn k l n (u + 1) d a b else 0) + (if l ≤ u - k * (d + 1) then Hn k l n u (d + 1) a b else 0)
theorem Hn_nonneg (k l : Int) : ∀ (n : Nat) (u d a b : Int), 0 ≤ Hn k l n u d a b
  | 0, u, d, a, b => by unfold Hn; split <;> omega
  | n + 1, u, d, a, b => by
    have h1 := Hn_nonneg k l n (u + 1) d a b
    have h2 := Hn_nonneg k l n u (d + 1) a b
    unfold Hn
    split <;> split <;> omega
theorem Hn_out (k l : Int) : ∀ (n : Nat) (u d a b : Int), (a < u ∨ b < d) → Hn k l n u d a b = 0
  | 0, u, d, a, b, h => by unfold Hn; rw [if_neg (by omega)]
  | n + 1, u, d, a, b, h => by
    unfold Hn
    rw [Hn_out k l n (u + 1) d a b (by omega), Hn_out k l n u (d + 1) a b (by omega)]
    split <;> split <;> rfl
theorem Hn_len (k l : Int) : ∀ (n : Nat) (u d a b : Int), a + b ≠ u + d + n → Hn k l n u d a b = 0
  | 0, u, d, a, b, h => by unfold Hn; rw [if_neg (by omega)]
  | n + 1, u, d, a, b, h => by
    unfold Hn
    rw [Hn_len k l n (u + 1) d a b (by omega), Hn_len k l n u (d + 1) a b (by omega)]
    split <;> split <;> rfl
/-- The last step in the place of the first. -/
theorem Hn_last (k l : Int) : ∀ (n : Nat) (u d a b : Int), Hn k l (n + 1) u d a b = if l ≤ a - k * b then Hn k l n u d (a - 1) b + Hn k l n u d a (b - 1) else 0
  | 0, u, d, a, b => by
    have e : Hn k l (0 + 1) u d a b = (if l ≤ u + 1 - k * d then Hn k l 0 (u + 1) d a b else 0) + (if l ≤ u - k * (d + 1) then Hn k l 0 u (d + 1) a b else 0) := rfl
    have A : Hn k l 0 (u + 1) d a b = Hn k l 0 u d (a - 1) b := by
      unfold Hn
      simp only [show (u + 1 = a ∧ d = b) ↔ (u = a - 1 ∧ d = b) from by omega]
    have B : Hn k l 0 u (d + 1) a b = Hn k l 0 u d a (b - 1) := by
      unfold Hn
      simp only [show (u = a ∧ d + 1 = b) ↔ (u = a ∧ d = b - 1) from by omega]
    rw [e, A, B]
    by_cases h1 : u = a - 1 ∧ d = b
    · obtain ⟨h1, rfl⟩ := h1
      obtain rfl : a = u + 1 := by omega
      have z : Hn k l 0 u d (u + 1) (d - 1) = 0 := Hn_out k l 0 u d _ _ (by omega)
      rw [z]
      split <;> split <;> omega
    · by_cases h2 : u = a ∧ d = b - 1
      · obtain ⟨rfl, h2⟩ := h2
        obtain rfl : b = d + 1 := by omega
        have z : Hn k l 0 u d (u - 1) (d + 1) = 0 := Hn_out k l 0 u d _ _ (by omega)
        rw [z]
        split <;> split <;> omega
      · have z1 : Hn k l 0 u d (a - 1) b = 0 := by unfold Hn; rw [if_neg h1]
        have z2 : Hn k l 0 u d a (b - 1) = 0 := by unfold Hn; rw [if_neg h2]
        rw [z1, z2]
        simp
  | n + 1, u, d, a, b => by
    have e : ∀ (m : Nat) (u d a b : Int), Hn k l (m + 1) u d a b = (if l ≤ u + 1 - k * d then Hn k l m (u + 1) d a b else 0) + (if l ≤ u - k * (d + 1) then Hn k l m u (d + 1) a b else 0) := fun _ _ _ _ _ => rfl
    rw [e (n + 1), Hn_last k l n (u + 1) d a b, Hn_last k l n u (d + 1) a b, e n u d (a - 1) b, e n u d a (b - 1)]
    split <;> split <;> split <;> omega
/-- How many paths from the origin to (a, b). -/
def Gb (k l a b : Int) : Int := Hn k l (a + b).toNat 0 0 a b
theorem Gb_zero (k l : Int) : Gb k l 0 0 = 1 := by unfold Gb; rfl
theorem Gb_out (k l a b : Int) (h : a < 0 ∨ b < 0) : Gb k l a b = 0 := Hn_out k l _ 0 0 a b h
theorem Gb_step (k l a b : Int) (h : 0 ≤ a ∧ 0 ≤ b ∧ 1 ≤ a + b) : Gb k l a b = if l ≤ a - k * b then Gb k l (a - 1) b + Gb k l a (b - 1) else 0 := by
  unfold Gb
  obtain ⟨n, hn⟩ : ∃ n : Nat, (a + b).toNat = n + 1 := ⟨(a + b).toNat - 1, by omega⟩
  rw [hn, Hn_last, show (a - 1 + b).toNat = n from by omega, show (a + (b - 1)).toNat = n from by omega]
theorem Gb_nonneg (k l a b : Int) : 0 ≤ Gb k l a b := Hn_nonneg _ _ _ _ _ _ _
theorem cz_two (a b : Int) (ha : 0 ≤ a) (hb : 1 ≤ b) : b * Cz (a + b - 1) b = a * Cz (a + b - 1) (b - 1) := by
  obtain ⟨A, rfl⟩ : ∃ A : Nat, a = (A : Int) := ⟨a.toNat, by omega⟩
  obtain ⟨B, rfl⟩ : ∃ B : Nat, b = (B : Int) + 1 := ⟨(b - 1).toNat, by omega⟩
  have e1 : (A : Int) + ((B : Int) + 1) - 1 = ((A + B : Nat) : Int) := by omega
  have e2 : (B : Int) + 1 = ((B + 1 : Nat) : Int) := by omega
  have e3 : (B : Int) + 1 - 1 = (B : Int) := by omega
  rw [e1, e3, e2, Cz_nat, Cz_nat]
  have h := C_step (A + B) B (by omega)
  rw [show A + B - B = A from by omega] at h
  have h' : ((C (A + B) (B + 1) * (B + 1) : Nat) : Int) = ((C (A + B) B * A : Nat) : Int) := by rw [h]
  rw [Int.natCast_mul, Int.natCast_mul] at h'
  rw [Int.mul_comm, h', Int.mul_comm]
/-- The ballot theorem, never behind. -/
theorem ballot0 (k : Int) (hk : 1 ≤ k) : ∀ (n : Nat) (a b : Int), 0 ≤ a → 0 ≤ b → a + b = n →
    (k * b ≤ a → (a + 1) * Gb k 0 a b = (a + 1 - k * b) * Cz (a + b) b) ∧ (a < k * b → Gb k 0 a b = 0) := by
  intro n
  induction n with
  | zero =>
    intro a b ha hb hn
    obtain rfl : a = 0 := by omega
    obtain rfl : b = 0 := by omega
    refine ⟨fun _ => ?_, fun h => by simp at h⟩
    rw [Gb_zero]
    have : Cz (0 + 0) 0 = 1 := by decide
    rw [this]; simp
  | succ n ih =>
    intro a b ha hb hn
    have st := Gb_step k 0 a b ⟨ha, hb, by omega⟩
    refine ⟨fun h => ?_, fun h => ?_⟩
    · rw [if_pos (by omega)] at st
      by_cases hb0 : b = 0
      · subst hb0
        rw [Gb_out k 0 a (0 - 1) (by omega), Int.add_zero] at st
        have i1 := (ih (a - 1) 0 (by omega) (by omega) (by omega)).1 (by simp; omega)
        have c1 : Cz (a - 1 + 0) 0 = 1 := by unfold Cz; rw [if_pos (by omega), Int.toNat_zero, C_zero]; rfl
        have c2 : Cz (a + 0) 0 = 1 := by unfold Cz; rw [if_pos (by omega), Int.toNat_zero, C_zero]; rfl
        rw [c1] at i1
        rw [c2, st]
        have hp : 0 < a := by omega
        have : a * (Gb k 0 (a - 1) 0 - 1) = 0 := by grind
        rcases Int.mul_eq_zero.1 this with z | z
        · omega
        · have z' : Gb k 0 (a - 1) 0 = 1 := by omega
          rw [z']; simp
      · have ha1 : 1 ≤ a := by
          have := Int.mul_le_mul (a := 1) (b := 1) (c := k) (d := b) (by omega) (by omega) (by omega) (by omega)
          omega
        have i2 := (ih a (b - 1) (by omega) (by omega) (by omega)).1 (by have : k * (b - 1) = k * b - k := by grind
                                                                         omega)
        have i1 : a * Gb k 0 (a - 1) b = (a - k * b) * Cz (a + b - 1) b := by
          by_cases c : k * b ≤ a - 1
          · have := (ih (a - 1) b (by omega) (by omega) (by omega)).1 c
            rw [show a - 1 + 1 = a from by omega, show a - 1 + b = a + b - 1 from by omega] at this
            exact this
          · rw [(ih (a - 1) b (by omega) (by omega) (by omega)).2 (by omega), show a - k * b = 0 from by omega]; simp
        have p := Cz_pascal (a + b - 1) b (by omega)
        rw [show a + b - 1 + 1 = a + b from by omega] at p
        have t := cz_two a b ha (by omega)
        rw [show a + (b - 1) = a + b - 1 from by omega] at i2
        generalize Gb k 0 (a - 1) b = g1 at *
        generalize Gb k 0 a (b - 1) = g2 at *
        generalize Cz (a + b - 1) b = c1 at *
        generalize Cz (a + b - 1) (b - 1) = c2 at *
        rw [st, p]
        have key : a * ((a + 1) * (g1 + g2) - (a + 1 - k * b) * (c2 + c1)) = 0 := by grind
        rcases Int.mul_eq_zero.1 key with z | z
        · omega
        · omega
    · rw [if_neg (by omega)] at st; exact st
/-- The ballot theorem, always ahead. -/
theorem ballot1 (k : Int) (hk : 1 ≤ k) : ∀ (n : Nat) (a b : Int), 0 ≤ a → 0 ≤ b → a + b = (n : Int) + 1 →
    (k * b ≤ a → (a + b) * Gb k 1 a b = (a - k * b) * Cz (a + b) b) ∧ (a ≤ k * b → Gb k 1 a b = 0) := by
  intro n
  induction n with
  | zero =>
    intro a b ha hb hn
    have st := Gb_step k 1 a b ⟨ha, hb, by omega⟩
    have : (a = 1 ∧ b = 0) ∨ (a = 0 ∧ b = 1) := by omega
    rcases this with ⟨rfl, rfl⟩ | ⟨rfl, rfl⟩
    · refine ⟨fun _ => ?_, fun h => by simp at h⟩
      rw [if_pos (by simp), show (1 : Int) - 1 = 0 from rfl, Gb_zero, Gb_out k 1 1 (0 - 1) (by omega)] at st
      rw [st]
      have : Cz (1 + 0) 0 = 1 := by decide
      rw [this]; simp
    · rw [if_neg (by omega)] at st
      exact ⟨fun h => by omega, fun _ => st⟩
  | succ n ih =>
    intro a b ha hb hn
    have st := Gb_step k 1 a b ⟨ha, hb, by omega⟩
    refine ⟨fun h => ?_, fun h => by rw [if_neg (by omega)] at st; exact st⟩
    by_cases ht : a = k * b
    · rw [if_neg (by omega)] at st
      rw [st, ht]; simp
    rw [if_pos (by omega)] at st
    by_cases hb0 : b = 0
    · subst hb0
      rw [Gb_out k 1 a (0 - 1) (by omega), Int.add_zero] at st
      have i1 := (ih (a - 1) 0 (by omega) (by omega) (by omega)).1 (by simp; omega)
      have c1 : Cz (a - 1 + 0) 0 = 1 := by unfold Cz; rw [if_pos (by omega), Int.toNat_zero, C_zero]; rfl
      have c2 : Cz (a + 0) 0 = 1 := by unfold Cz; rw [if_pos (by omega), Int.toNat_zero, C_zero]; rfl
      rw [c1] at i1
      rw [c2, st]
      have : (a - 1) * (Gb k 1 (a - 1) 0 - 1) = 0 := by grind
      rcases Int.mul_eq_zero.1 this with z | z
      · omega
      · have z' : Gb k 1 (a - 1) 0 = 1 := by omega
        rw [z']; simp
    · have hkb : 1 ≤ k * b := by
        have := Int.mul_le_mul (a := 1) (b := 1) (c := k) (d := b) (by omega) (by omega) (by omega) (by omega)
        omega
      have e0 : k * (b - 1) = k * b - k := by grind
      have i2 := (ih a (b - 1) (by omega) (by omega) (by omega)).1 (by omega)
      have i1 := (ih (a - 1) b (by omega) (by omega) (by omega)).1 (by omega)
      have p := Cz_pascal (a + b - 1) b (by omega)
      rw [show a + b - 1 + 1 = a + b from by omega] at p
      have t := cz_two a b ha (by omega)
      rw [show a + (b - 1) = a + b - 1 from by omega] at i2
      rw [show a - 1 + b = a + b - 1 from by omega] at i1
      generalize Gb k 1 (a - 1) b = g1 at *
      generalize Gb k 1 a (b - 1) = g2 at *
      generalize Cz (a + b - 1) b = c1 at *
      generalize Cz (a + b - 1) (b - 1) = c2 at *
      rw [st, p]
      have key : (a + b - 1) * ((a + b) * (g1 + g2) - (a - k * b) * (c2 + c1)) = 0 := by grind
      rcases Int.mul_eq_zero.1 key with z | z
      · omega
      · omega

theorem strOf_snoc (xs : List Int) (c : Int) (u : UInt8) (h : strOfNums [c] = ⟨#[u]⟩) : strOfNums (xs ++ [c]) = strOfNums xs ++ (⟨#[u]⟩ : ByteArray) := by
  have e : ∀ (a b : List Int), (strOfNums (a ++ b)).data = (strOfNums a).data ++ (strOfNums b).data := by
    intro a b
    unfold strOfNums
    simp
  apply ByteArray.ext
  rw [e, h]
  simp [ByteArray.data_append]
theorem strOf_D (xs : List Int) : strOfNums (xs ++ [68]) = strOfNums xs ++ (⟨#[68]⟩ : ByteArray) := strOf_snoc xs 68 68 rfl
theorem strOf_U (xs : List Int) : strOfNums (xs ++ [85]) = strOfNums xs ++ (⟨#[85]⟩ : ByteArray) := strOf_snoc xs 85 85 rfl
theorem strOf_len (xs : List Int) : (strOfNums xs).size = xs.length := by
  unfold strOfNums
  simp [ByteArray.size]

theorem L1_set (x : List (List Int)) (n : Int) (v : List Int) (j : Int) (hn : 0 ≤ n) (hl : n < (x.length : Int)) (hj : 0 ≤ j) : rd_L1 (x.set n.toNat v) j = if n = j then v else rd_L1 x j := by
  unfold rd_L1
  rw [List.getD_eq_getElem?_getD, List.getD_eq_getElem?_getD, List.getElem?_set]
  by_cases h : n = j
  · subst h
    rw [if_pos rfl, if_pos rfl, if_pos (by omega)]; rfl
  · rw [if_neg (by omega), if_neg h]
theorem wF_out {out : Int → Int → Prop} [∀ u d, Decidable (out u d)] {a b : Int} {F : Int → Int → Int} (H : OnF out a b F) {u d : Int} (h1 : 0 ≤ u) (h2 : u ≤ 41) (h3 : 0 ≤ d) (h4 : d ≤ 41) (h : u > a ∨ d > b ∨ out u d) : F u d = 0 := by
  rw [H.eq u d h1 h2 h3 h4, if_pos h]
theorem wF_end {out : Int → Int → Prop} [∀ u d, Decidable (out u d)] {a b : Int} {F : Int → Int → Int} (H : OnF out a b F) (h1 : 0 ≤ a) (h2 : a ≤ 41) (h3 : 0 ≤ b) (h4 : b ≤ 41) (h : ¬ out a b) : F a b = 1 := by
  rw [H.eq a b h1 h2 h3 h4, if_neg (by rintro (g | g | g) <;> first | omega | exact h g), if_pos ⟨rfl, rfl⟩]
theorem wF_step {out : Int → Int → Prop} [∀ u d, Decidable (out u d)] {a b : Int} {F : Int → Int → Int} (H : OnF out a b F) {u d : Int} (h1 : 0 ≤ u) (h2 : u ≤ a) (ha : a ≤ 40) (h3 : 0 ≤ d) (h4 : d ≤ b) (hb : b ≤ 40) (h : ¬ out u d) (hne : ¬ (u = a ∧ d = b)) : F u d = F (u + 1) d + F u (d + 1) := by
  rw [H.eq u d h1 (by omega) h3 (by omega), if_neg (by rintro (g | g | g) <;> first | omega | exact h g), if_neg hne]
abbrev OutN (k l u d : Int) : Prop := u + d > 0 ∧ u - k * d < l
/-- The table, rows below j being done, and row j as far as i. -/
structure Tab (F : Int → Int → Int) (A B : Int) (a b : Nat) (x : List (List Int)) (j i : Nat) : Prop where
  len : x.length = b + 1
  done : ∀ j' : Nat, j' < j → (rd_L1 x (j' : Int)).length = a + 1 ∧ ∀ i' : Nat, i' ≤ a → rd (rd_L1 x (j' : Int)) (i' : Int) = F (A - i') (B - j')
  row : (rd_L1 x (j : Int)).length = a + 1
  got : ∀ i' : Nat, i' ≤ a → rd (rd_L1 x (j : Int)) (i' : Int) = if i' < i then F (A - i') (B - j) else 0
theorem Tab.put {F : Int → Int → Int} {A B : Int} {a b : Nat} {x : List (List Int)} {j i : Nat} (h : Tab F A B a b x j i) (hj : j ≤ b) (hi : i ≤ a) (v : Int) (hv : v = F (A - i) (B - j)) : Tab F A B a b (x.set (j : Int).toNat ((rd_L1 x (j : Int)).set (i : Int).toNat v)) j (i + 1) := by
  have hl := h.len
  refine ⟨by rw [List.length_set]; exact h.len, fun j' hj' => ?_, ?_, fun i' hi' => ?_⟩
  · rw [L1_set _ _ _ _ (by omega) (by omega) (by omega), if_neg (by omega)]
    exact h.done j' hj'
  · rw [L1_set _ _ _ _ (by omega) (by omega) (by omega), if_pos rfl, List.length_set]; exact h.row
  · have hr := h.row
    rw [L1_set _ _ _ _ (by omega) (by omega) (by omega), if_pos rfl, rd_set _ _ _ _ (by omega) (by omega) (by omega)]
    by_cases e : (i : Int) = (i' : Int)
    · rw [if_pos e, if_pos (by omega), hv]
      have : i' = i := by omega
      rw [this]
    · rw [if_neg e, h.got i' hi']
      by_cases c : i' < i
      · rw [if_pos c, if_pos (by omega)]
      · rw [if_neg c, if_neg (by omega)]
theorem Tab.skip {F : Int → Int → Int} {A B : Int} {a b : Nat} {x : List (List Int)} {j i : Nat} (h : Tab F A B a b x j i) (hv : F (A - i) (B - j) = 0) : Tab F A B a b x j (i + 1) := by
  refine ⟨h.len, h.done, h.row, fun i' hi' => ?_⟩
  rw [h.got i' hi']
  by_cases c : i' < i
  · rw [if_pos c, if_pos (by omega)]
  · rw [if_neg c]
    by_cases e : i' < i + 1
    · rw [if_pos e, show i' = i from by omega, hv]
    · rw [if_neg e]
theorem set_two (x : List (List Int)) (j : Int) (i : Int) (v1 v2 : Int) (hj : 0 ≤ j) (hl : j < (x.length : Int)) : (x.set j.toNat ((rd_L1 x j).set i.toNat v1)).set j.toNat ((rd_L1 (x.set j.toNat ((rd_L1 x j).set i.toNat v1)) j).set i.toNat v2) = x.set j.toNat ((rd_L1 x j).set i.toNat v2) := by
  rw [L1_set _ _ _ _ hj hl hj, if_pos rfl, List.set_set, List.set_set]

theorem mulk (k x : Int) (hk : 1 ≤ k ∧ k ≤ 5) (h0 : -100 ≤ x) (h1 : x ≤ 100) : -500 ≤ k * x ∧ k * x ≤ 500 := by
  have : k = 1 ∨ k = 2 ∨ k = 3 ∨ k = 4 ∨ k = 5 := by omega
  rcases this with rfl | rfl | rfl | rfl | rfl <;> omega
section
variable {A B k : Int} {F : Int → Int → Int}
/-- What a point of the table is, by its neighbours. -/
theorem pt {a b : Nat} (H : OnF (OutN k 0) A B F) (hA : 0 ≤ A ∧ A ≤ 40) (hB : 0 ≤ B ∧ B ≤ 40) (ha : (a : Int) ≤ A) (hb : (b : Int) ≤ B) (i j : Nat) (hi : i ≤ a) (hj : j ≤ b) (hat : 0 ≤ A - i - k * (B - j)) (hij : ¬ (i + j = 0)) :
    F (A - i) (B - j) = (if 0 < i then F (A - ((i : Int) - 1)) (B - j) else 0) + (if 0 < j ∧ 0 ≤ A - i - k * (B - j) - k then F (A - i) (B - ((j : Int) - 1)) else 0) := by
  rw [wF_step H (by omega) (by omega) hA.2 (by omega) (by omega) hB.2 (by rintro ⟨_, h⟩; omega) (by omega)]
  congr 1
  · by_cases h : 0 < i
    · rw [if_pos h, show A - (i : Int) + 1 = A - ((i : Int) - 1) from by omega]
    · rw [if_neg h]; exact wF_out H (by omega) (by omega) (by omega) (by omega) (.inl (by omega))
  · by_cases h : 0 < j
    · rw [show B - (j : Int) + 1 = B - ((j : Int) - 1) from by omega]
      by_cases g : 0 ≤ A - i - k * (B - j) - k
      · rw [if_pos ⟨h, g⟩]
      · rw [if_neg (fun x => g x.2)]
        refine wF_out H (by omega) (by omega) (by omega) (by omega) (.inr (.inr ⟨by omega, ?_⟩))
        rw [show B - ((j : Int) - 1) = (B - j) + 1 from by omega, Int.mul_add, Int.mul_one]; omega
    · rw [if_neg (fun x => h x.1)]; exact wF_out H (by omega) (by omega) (by omega) (by omega) (.inr (.inl (by omega)))
theorem baRest_l1 {a b : Nat} (H : OnF (OutN k 0) A B F) (hk : 1 ≤ k ∧ k ≤ 5) (hA : 0 ≤ A ∧ A ≤ 40) (hB : 0 ≤ B ∧ B ≤ 40) (ha : (a : Int) ≤ A) (hb : (b : Int) ≤ B) (m : Int) (hm : m = A - a - k * (B - b)) (j : Nat) (hj : j ≤ b) (r : Int)
    (hnext : ∀ x, Tab F A B a b x j (a + 1) → Ev (fun n => spec_baRest.l0 n (a : Int) (b : Int) k m x ((j : Int) + 1)) r) : ∀ (e i : Nat) (x : List (List Int)), i + e = a + 1 → Tab F A B a b x j i → Ev (fun n => spec_baRest.l1 n (a : Int) (b : Int) k m x (j : Int) (i : Int)) r
  | 0, i, x, he, hT => by
    refine Ev.s ?_
    simp only [spec_baRest.l1, if_neg (show ¬ (i : Int) ≤ (a : Int) by omega)]
    rw [w64 (n := (j : Int) + 1) (by omega) (by omega)]
    obtain rfl : i = a + 1 := by omega
    exact hnext x hT
  | e + 1, i, x, he, hT => by
    have hia : i ≤ a := by omega
    have ih := fun y hy => baRest_l1 H hk hA hB ha hb m hm j hj r hnext e (i + 1) y (by omega) hy
    rw [Int.natCast_add, Int.natCast_one] at ih
    have hmul : k * (B - j) = k * (B - b) + k * ((b : Int) - j) := by rw [← Int.mul_add]; congr 1; omega
    have m1 := mulk k (B - b) hk (by omega) (by omega)
    have m2 := mulk k ((b : Int) - j) hk (by omega) (by omega)
    have hlen := hT.len
    have hrow := hT.row
    have hcur : rd (rd_L1 x (j : Int)) (i : Int) = 0 := by rw [hT.got i hia, if_neg (by omega)]
    refine Ev.s ?_
    simp only [spec_baRest.l1, if_pos (show (i : Int) ≤ (a : Int) by omega)]
    have eat : m + ((a : Int) - i) - k * ((b : Int) - j) = A - i - k * (B - j) := by omega
    rw [w64 (n := (a : Int) - i) (by omega) (by omega), w64 (n := (b : Int) - j) (by omega) (by omega), w64 (n := k * ((b : Int) - j)) (by omega) (by omega), w64 (n := m + ((a : Int) - i)) (by omega) (by omega), w64 (n := m + ((a : Int) - i) - k * ((b : Int) - j)) (by omega) (by omega), eat, w64 (n := (i : Int) + j) (by omega) (by omega), w64 (n := A - i - k * (B - j) - k) (by omega) (by omega), w64 (n := (i : Int) + 1) (by omega) (by omega), w64 (n := (i : Int) - 1) (by omega) (by omega), w64 (n := (j : Int) - 1) (by omega) (by omega)]
    by_cases c0 : A - i - k * (B - j) < 0
    · simp only [if_pos c0]
      exact ih x (hT.skip (wF_out H (by omega) (by omega) (by omega) (by omega) (.inr (.inr ⟨by
        by_cases z : A - (i : Int) + (B - j) > 0
        · exact z
        · have z1 : B - (j : Int) = 0 := by omega
          rw [z1] at c0; omega, c0⟩))))
    · simp only [if_neg c0]
      by_cases c1 : (i : Int) + j = 0
      · simp only [if_pos c1, if_pos (show (0 : Int) ≤ (j : Int) by omega), if_pos (show (j : Int) < (x.length : Int) by omega), if_pos (show (0 : Int) ≤ (i : Int) by omega), if_pos (show (i : Int) < ((rd_L1 x (j : Int)).length : Int) by omega)]
        refine ih _ (hT.put hj hia 1 ?_)
        have z1 : i = 0 := by omega
        have z2 : j = 0 := by omega
        subst z1 z2
        simp only [Int.natCast_zero, Int.sub_zero] at c0 ⊢
        exact (wF_end H (by omega) (by omega) (by omega) (by omega) (by rintro ⟨_, h⟩; omega)).symm
      · simp only [if_neg c1]
        have hp := pt H hA hB ha hb i j hia hj (by omega) (by omega)
        have f1 : 0 < i → rd (rd_L1 x (j : Int)) ((i : Int) - 1) = F (A - ((i : Int) - 1)) (B - j) := fun h => by
          have := hT.got (i - 1) (by omega)
          rw [if_pos (by omega), show ((i - 1 : Nat) : Int) = (i : Int) - 1 from by omega] at this
          exact this
        have f2 : 0 < j → rd (rd_L1 x ((j : Int) - 1)) (i : Int) = F (A - i) (B - ((j : Int) - 1)) ∧ (rd_L1 x ((j : Int) - 1)).length = a + 1 := fun h => by
          have := hT.done (j - 1) (by omega)
          rw [show ((j - 1 : Nat) : Int) = (j : Int) - 1 from by omega] at this
          exact ⟨this.2 i hia, this.1⟩
        have b1 := H.le (A - ((i : Int) - 1)) (B - j)
        have b2 := H.le (A - i) (B - ((j : Int) - 1))
        have b3 := H.nn (A - ((i : Int) - 1)) (B - j)
        have b4 := H.nn (A - i) (B - ((j : Int) - 1))
        by_cases ci : 0 < i
        · rw [if_pos ci] at hp
          have e1 := f1 ci
          simp only [if_pos (show (i : Int) > 0 by omega), if_pos (show (0 : Int) ≤ (j : Int) by omega), if_pos (show (j : Int) < (x.length : Int) by omega), if_pos (show (0 : Int) ≤ (i : Int) by omega), if_pos (show (i : Int) < ((rd_L1 x (j : Int)).length : Int) by omega), if_pos (show (0 : Int) ≤ (i : Int) - 1 by omega), if_pos (show (i : Int) - 1 < ((rd_L1 x (j : Int)).length : Int) by omega), Option.bind_some]
          rw [hcur, e1, Int.zero_add, w64 (n := F (A - ((i : Int) - 1)) (B - j)) (by omega) (by omega)]
          have hy := L1_set x (j : Int) ((rd_L1 x (j : Int)).set (i : Int).toNat (F (A - ((i : Int) - 1)) (B - j))) (j : Int) (by omega) (by omega) (by omega)
          rw [if_pos rfl] at hy
          by_cases cj : (j : Int) > 0
          · by_cases cg : A - i - k * (B - j) - k ≥ 0
            · have hy2 := L1_set x (j : Int) ((rd_L1 x (j : Int)).set (i : Int).toNat (F (A - ((i : Int) - 1)) (B - j))) ((j : Int) - 1) (by omega) (by omega) (by omega)
              rw [if_neg (by omega)] at hy2
              have e2 := f2 (by omega)
              have hyl : ((rd_L1 (x.set (j : Int).toNat ((rd_L1 x (j : Int)).set (i : Int).toNat (F (A - ((i : Int) - 1)) (B - j)))) (j : Int)).length : Int) = a + 1 := by rw [hy, List.length_set]; omega
              have hyl2 : ((rd_L1 (x.set (j : Int).toNat ((rd_L1 x (j : Int)).set (i : Int).toNat (F (A - ((i : Int) - 1)) (B - j)))) ((j : Int) - 1)).length : Int) = a + 1 := by rw [hy2]; omega
              have hrd : rd (rd_L1 (x.set (j : Int).toNat ((rd_L1 x (j : Int)).set (i : Int).toNat (F (A - ((i : Int) - 1)) (B - j)))) (j : Int)) (i : Int) = F (A - ((i : Int) - 1)) (B - j) := by
                rw [hy, rd_set _ _ _ _ (by omega) (by omega) (by omega), if_pos rfl]
              have hrd2 : rd (rd_L1 (x.set (j : Int).toNat ((rd_L1 x (j : Int)).set (i : Int).toNat (F (A - ((i : Int) - 1)) (B - j)))) ((j : Int) - 1)) (i : Int) = F (A - i) (B - ((j : Int) - 1)) := by
                rw [hy2]; exact e2.1
              simp only [if_pos cj, if_pos cg, if_pos (show (i : Int) < ((rd_L1 (x.set (j : Int).toNat ((rd_L1 x (j : Int)).set (i : Int).toNat (F (A - ((i : Int) - 1)) (B - j)))) (j : Int)).length : Int) by omega), if_pos (show (0 : Int) ≤ (j : Int) - 1 by omega), if_pos (show (j : Int) - 1 < (x.length : Int) by omega), if_pos (show (i : Int) < ((rd_L1 (x.set (j : Int).toNat ((rd_L1 x (j : Int)).set (i : Int).toNat (F (A - ((i : Int) - 1)) (B - j)))) ((j : Int) - 1)).length : Int) by omega)]
              rw [hrd, hrd2, w64 (n := F (A - ((i : Int) - 1)) (B - j) + F (A - i) (B - ((j : Int) - 1))) (by omega) (by omega), set_two x (j : Int) (i : Int) _ _ (by omega) (by omega)]
              rw [if_pos ⟨by omega, by omega⟩] at hp
              exact ih _ (hT.put hj hia _ hp.symm)
            · simp only [if_pos cj, if_neg cg]
              rw [if_neg (fun z => cg z.2), Int.add_zero] at hp
              exact ih _ (hT.put hj hia _ hp.symm)
          · simp only [if_neg cj]
            rw [if_neg (fun z => cj (by omega)), Int.add_zero] at hp
            exact ih _ (hT.put hj hia _ hp.symm)
        · rw [if_neg ci, Int.zero_add] at hp
          simp only [if_neg (show ¬ (i : Int) > 0 by omega)]
          by_cases cj : (j : Int) > 0
          · by_cases cg : A - i - k * (B - j) - k ≥ 0
            · have e2 := f2 (by omega)
              simp only [if_pos cj, if_pos cg, if_pos (show (0 : Int) ≤ (j : Int) by omega), if_pos (show (j : Int) < (x.length : Int) by omega), if_pos (show (0 : Int) ≤ (i : Int) by omega), if_pos (show (i : Int) < ((rd_L1 x (j : Int)).length : Int) by omega), if_pos (show (0 : Int) ≤ (j : Int) - 1 by omega), if_pos (show (j : Int) - 1 < (x.length : Int) by omega), if_pos (show (i : Int) < ((rd_L1 x ((j : Int) - 1)).length : Int) by omega)]
              rw [hcur, e2.1, Int.zero_add, w64 (n := F (A - i) (B - ((j : Int) - 1))) (by omega) (by omega)]
              rw [if_pos ⟨by omega, by omega⟩] at hp
              exact ih _ (hT.put hj hia _ hp.symm)
            · simp only [if_pos cj, if_neg cg]
              rw [if_neg (fun z => cg z.2)] at hp
              exact ih _ (hT.skip hp)
          · simp only [if_neg cj]
            rw [if_neg (fun z => cj (by omega))] at hp
            exact ih _ (hT.skip hp)
theorem baRest_l0 {a b : Nat} (H : OnF (OutN k 0) A B F) (hk : 1 ≤ k ∧ k ≤ 5) (hA : 0 ≤ A ∧ A ≤ 40) (hB : 0 ≤ B ∧ B ≤ 40) (ha : (a : Int) ≤ A) (hb : (b : Int) ≤ B) (m : Int) (hm : m = A - a - k * (B - b)) : ∀ (e j : Nat) (x : List (List Int)), j + e = b + 1 → x.length = b + 1 →
    (∀ j' : Nat, j' < j → (rd_L1 x (j' : Int)).length = a + 1 ∧ ∀ i' : Nat, i' ≤ a → rd (rd_L1 x (j' : Int)) (i' : Int) = F (A - i') (B - j')) → Ev (fun n => spec_baRest.l0 n (a : Int) (b : Int) k m x (j : Int)) (F (A - a) (B - b))
  | 0, j, x, he, hl, hd => by
    refine Ev.s ?_
    have := hd b (by omega)
    have hlen := this.1
    simp only [spec_baRest.l0, if_neg (show ¬ (j : Int) ≤ (b : Int) by omega), if_pos (show (0 : Int) ≤ (b : Int) by omega), if_pos (show (b : Int) < (x.length : Int) by omega), if_pos (show (0 : Int) ≤ (a : Int) by omega), if_pos (show (a : Int) < ((rd_L1 x (b : Int)).length : Int) by omega)]
    rw [this.2 a (Nat.le_refl _)]
    exact Ev.now _
  | e + 1, j, x, he, hl, hd => by
    refine Ev.s ?_
    have hlr : rd_L1 (x.set (j : Int).toNat (List.replicate ((a : Int) + 1).toNat 0)) (j : Int) = List.replicate ((a : Int) + 1).toNat 0 := by
      rw [L1_set _ _ _ _ (by omega) (by omega) (by omega), if_pos rfl]
    simp only [spec_baRest.l0, if_pos (show (j : Int) ≤ (b : Int) by omega)]
    rw [w64 (n := (a : Int) + 1) (by omega) (by omega)]
    simp only [if_pos (show (0 : Int) ≤ (a : Int) + 1 by omega), if_pos (show ((a : Int) + 1).toNat ≤ 35184372088832 by omega), if_pos (show (0 : Int) ≤ (j : Int) by omega), if_pos (show (j : Int) < (x.length : Int) by omega)]
    refine baRest_l1 H hk hA hB ha hb m hm j (by omega) _ (fun y hy => ?_) (a + 1) 0 _ (by omega) ⟨by rw [List.length_set]; exact hl, fun j' hj' => ?_, by rw [hlr, List.length_replicate]; omega, fun i' hi' => ?_⟩
    · have := baRest_l0 H hk hA hB ha hb m hm e (j + 1) y (by omega) hy.len (fun j' hj' => by
        by_cases c : j' < j
        · exact hy.done j' c
        · obtain rfl : j' = j := by omega
          refine ⟨hy.row, fun i' hi' => ?_⟩
          rw [hy.got i' hi', if_pos (by omega)])
      rw [Int.natCast_add, Int.natCast_one] at this
      exact this
    · rw [L1_set _ _ _ _ (by omega) (by omega) (by omega), if_neg (by omega)]
      exact hd j' hj'
    · rw [hlr, if_neg (by omega)]
      unfold rd
      rw [List.getD_eq_getElem?_getD, List.getElem?_replicate]
      split <;> rfl
theorem baRest_ev (H : OnF (OutN k 0) A B F) (hk : 1 ≤ k ∧ k ≤ 5) (hA : 0 ≤ A ∧ A ≤ 40) (hB : 0 ≤ B ∧ B ≤ 40) (u d : Int) (hu : 0 ≤ u ∧ u ≤ A) (hd : 0 ≤ d ∧ d ≤ B) : Ev (fun n => spec_baRest.f n (A - u) (B - d) k (u - k * d)) (F u d) := by
  obtain ⟨a, ha⟩ : ∃ a : Nat, A - u = (a : Int) := ⟨(A - u).toNat, by omega⟩
  obtain ⟨b, hb⟩ : ∃ b : Nat, B - d = (b : Int) := ⟨(B - d).toNat, by omega⟩
  rw [ha, hb]
  unfold spec_baRest.f
  rw [w64 (n := (b : Int) + 1) (by omega) (by omega)]
  simp only [if_pos (show (0 : Int) ≤ (b : Int) + 1 by omega), if_pos (show ((b : Int) + 1).toNat ≤ 11728124029610 by omega)]
  have := baRest_l0 H hk hA hB (a := a) (b := b) (by omega) (by omega) (u - k * d) (by rw [show B - (b : Int) = d from by omega]; omega) (b + 1) 0 (List.replicate ((b : Int) + 1).toNat []) (by omega) (by rw [List.length_replicate]; omega) (fun j' hj' => by omega)
  rw [show A - (a : Int) = u from by omega, show B - (b : Int) = d from by omega] at this
  exact this
end

theorem wayG_hn (k l a b : Int) : ∀ (n : Nat) (u d : Int), 0 ≤ u → 0 ≤ d → u ≤ a → d ≤ b → a + b - u - d = n → ¬ OutN k l u d → wayG (OutN k l) a b (n + 1) u d = Hn k l n u d a b
  | 0, u, d, h1, h2, hu, hd, hn, ho => by
    unfold wayG Hn
    rw [if_neg (by rintro (h | h | h) <;> first | omega | exact ho h), if_pos (by omega), if_pos (by omega)]
  | n + 1, u, d, h1, h2, hu, hd, hn, ho => by
    unfold wayG Hn
    rw [if_neg (by rintro (h | h | h) <;> first | omega | exact ho h), if_neg (by omega)]
    congr 1
    · by_cases c : l ≤ u + 1 - k * d
      · rw [if_pos c]
        by_cases g : u + 1 ≤ a
        · exact wayG_hn k l a b n (u + 1) d (by omega) h2 g hd (by omega) (by rintro ⟨_, h⟩; omega)
        · unfold wayG
          rw [if_pos (.inl (by omega)), Hn_out k l n (u + 1) d a b (.inl (by omega))]
      · rw [if_neg c]
        unfold wayG
        rw [if_pos (.inr (.inr ⟨by omega, by omega⟩))]
    · by_cases c : l ≤ u - k * (d + 1)
      · rw [if_pos c]
        by_cases g : d + 1 ≤ b
        · exact wayG_hn k l a b n u (d + 1) h1 (by omega) hu g (by omega) (by rintro ⟨_, h⟩; omega)
        · unfold wayG
          rw [if_pos (.inr (.inl (by omega))), Hn_out k l n u (d + 1) a b (.inr (by omega))]
      · rw [if_neg c]
        unfold wayG
        rw [if_pos (.inr (.inr ⟨by omega, by omega⟩))]
theorem Onf_gb (a b k l : Int) (hs : Steps a b) : Onf a b k l 0 0 = Gb k l a b := by
  have ⟨ha, hb, hab⟩ := hs
  unfold Onf
  rw [show wayF (fun u d => u + d > 0 ∧ u - k * d < l) a b 0 0 = wayG (OutN k l) a b (a + b + 1 - 0 - 0).toNat 0 0 from wayF_in _ ⟨hab, by omega, by omega⟩, show (a + b + 1 - 0 - 0).toNat = (a + b).toNat + 1 from by omega, wayG_hn k l a b _ 0 0 (by omega) (by omega) ha.1 hb.1 (by omega) (by rintro ⟨h, _⟩; omega)]
  rfl
theorem Onf_on (a b k l : Int) (hs : Steps a b) : OnF (OutN k l) a b (Onf a b k l) := wayF_on (OutN k l) a b hs.1.1 hs.2.1.1 hs.2.2

theorem Gb_nv (a b c : Int) (hs : Steps a b) (hc : 1 ≤ c ∧ c ≤ 5) : Gb c 0 a b = Nv a b c := by
  have ⟨ha, hb, hab⟩ := hs
  have h := ballot0 c hc.1 (a + b).toNat a b ha.1 hb.1 (by omega)
  unfold Nv
  by_cases g : a < c * b
  · rw [if_pos g, h.2 g]
  · rw [if_neg g, ← Cz_symm a b ha.1 hb.1, ← h.1 (by omega), Int.mul_tdiv_cancel_left _ (by omega)]
    have h1 := (Onf_on a b c 0 hs).le 0 0
    have h2 := (Onf_on a b c 0 hs).nn 0 0
    rw [Onf_gb a b c 0 hs] at h1 h2
    rw [w64 (by omega) (by omega)]

theorem alive {out : Int → Int → Prop} [∀ u d, Decidable (out u d)] {A B : Int} {F : Int → Int → Int} (H : OnF out A B F) {u d : Int} (h1 : 0 ≤ u) (h2 : u ≤ 41) (h3 : 0 ≤ d) (h4 : d ≤ 41) (hp : 0 < F u d) : u ≤ A ∧ d ≤ B ∧ ¬ out u d := by
  have := H.eq u d h1 h2 h3 h4
  by_cases c : u > A ∨ d > B ∨ out u d
  · rw [if_pos c] at this; omega
  · exact ⟨by by_cases z : u > A; exact absurd (.inl z) c; omega, by by_cases z : d > B; exact absurd (.inr (.inl z)) c; omega, fun z => c (.inr (.inr z))⟩
theorem specNb_tb {A B k : Int} {F : Int → Int → Int} (H : OnF (OutN k 0) A B F) (hk : 1 ≤ k ∧ k ≤ 5) (hs : Steps A B) : ∀ (n : Nat) (u d r : Int) (out : List Int), 0 ≤ u → 0 ≤ d → u + d + n = A + B → (out.length : Int) = u + d → 0 ≤ r → r < F u d →
    Ev (fun q => spec_NeverBehindOfRank.l0 q (A - u) (B - d) k r (strOfNums out) (u - k * d)) (strOfNums (tb F n u d r out), true)
  | 0, u, d, r, out, hu, hd, hn, hl, h0, hr => by
    have ⟨hA, hB, hAB⟩ := hs
    refine Ev.s ?_
    simp only [spec_NeverBehindOfRank.l0]
    rw [w64 (n := A - u + (B - d)) (by omega) (by omega)]
    simp only [if_neg (show ¬ A - u + (B - d) > 0 by omega)]
    exact Ev.now _
  | n + 1, u, d, r, out, hu, hd, hn, hl, h0, hr => by
    have ⟨hA, hB, hAB⟩ := hs
    have hal := alive H hu (by omega) hd (by omega) (show 0 < F u d by omega)
    have hst := wF_step H hu hal.1 hA.2 hd hal.2.1 hB.2 hal.2.2 (by omega)
    have hf0 := H.le u d
    have hf := H.le u (d + 1)
    have hnn := H.nn u (d + 1)
    have hsz := strOf_len out
    have m1 := mulk k d hk (by omega) (by omega)
    have m2 : k * (d + 1) = k * d + k := by rw [Int.mul_add, Int.mul_one]
    have hD : 0 < F u (d + 1) → r < F u (d + 1) → Ev (fun q => spec_NeverBehindOfRank.l0 q (A - u) (B - d - 1) k r (strOfNums (out ++ [68])) (u - k * d - k)) (strOfNums (tb F n u (d + 1) r (out ++ [68])), true) := fun hp hc => by
      have := specNb_tb H hk hs n u (d + 1) r (out ++ [68]) hu (by omega) (by omega) (by rw [List.length_append, List.length_singleton]; omega) h0 hc
      rw [show B - (d + 1) = B - d - 1 from by omega, show u - k * (d + 1) = u - k * d - k from by omega] at this
      exact this
    have hU : ¬ r < F u (d + 1) → Ev (fun q => spec_NeverBehindOfRank.l0 q (A - u - 1) (B - d) k (r - F u (d + 1)) (strOfNums (out ++ [85])) (u - k * d + 1)) (strOfNums (tb F n (u + 1) d (r - F u (d + 1)) (out ++ [85])), true) := fun hc => by
      have := specNb_tb H hk hs n (u + 1) d (r - F u (d + 1)) (out ++ [85]) (by omega) hd (by omega) (by rw [List.length_append, List.length_singleton]; omega) (by omega) (by omega)
      rw [show A - (u + 1) = A - u - 1 from by omega, show u + 1 - k * d = u - k * d + 1 from by omega] at this
      exact this
    refine Ev.s ?_
    simp only [spec_NeverBehindOfRank.l0]
    rw [w64 (n := A - u + (B - d)) (by omega) (by omega)]
    simp only [if_pos (show A - u + (B - d) > 0 by omega)]
    rw [tb]
    have fin : ∀ z : Bool, (z = false → F u (d + 1) = 0) → (z = true → d + 1 ≤ B) → Ev (fun q => spec_NeverBehindOfRank.j2 q (A - u) (B - d) k r (strOfNums out) (u - k * d) 0 z) (strOfNums (if r < F u (d + 1) then tb F n u (d + 1) r (out ++ [68]) else tb F n (u + 1) d (r - F u (d + 1)) (out ++ [85])), true) := by
      intro z hz0 hz1
      refine Ev.s ?_
      simp only [spec_NeverBehindOfRank.j2]
      rw [w64 (n := B - d - 1) (by omega) (by omega), w64 (n := A - u - 1) (by omega) (by omega), w64 (n := u - k * d - k) (by omega) (by omega), w64 (n := u - k * d + 1) (by omega) (by omega)]
      simp only [if_pos (show (strOfNums out).size + 1 ≤ 9223372036854775807 by omega), ← strOf_D, ← strOf_U]
      cases z with
      | true =>
        simp only [if_true]
        have hb := baRest_ev H hk hA hB u (d + 1) ⟨hu, hal.1⟩ ⟨by omega, hz1 rfl⟩
        rw [show B - (d + 1) = B - d - 1 from by omega, show u - k * (d + 1) = u - k * d - k from by omega] at hb
        refine Ev.bs hb ?_
        by_cases c : r < F u (d + 1)
        · simp only [if_pos c]; exact hD (by omega) c
        · simp only [if_neg c]; rw [w64 (n := r - F u (d + 1)) (by omega) (by omega)]; exact hU c
      | false =>
        have e := hz0 rfl
        simp only [Bool.false_eq_true, if_false, if_neg (show ¬ r < 0 by omega), if_neg (show ¬ r < F u (d + 1) by omega)]
        rw [w64 (n := r - 0) (by omega) (by omega)]
        have := hU (by omega)
        rw [e] at this
        rw [e]
        exact this
    by_cases c1 : B - d > 0
    · simp only [if_pos c1]
      refine fin _ (fun h => ?_) (fun _ => by omega)
      have h' : ¬ (u - k * d ≥ k) := of_decide_eq_false h
      exact wF_out H hu (by omega) (by omega) (by omega) (.inr (.inr ⟨by omega, by omega⟩))
    · simp only [if_neg c1]
      refine fin false (fun _ => wF_out H hu (by omega) (by omega) (by omega) (.inr (.inl (by omega)))) (fun h => by cases h)
theorem FnExactNeverBehindOfRank : laws_FnExactNeverBehindOfRank.Pure := by
  intro a b c r _ _ _ _
  refine Ev.rounds ?_
  unfold laws_FnExactNeverBehindOfRank.f spec_NeverBehindOfRank.f impl_NeverBehindOfRank.f
  simp only [baNumbers_eq, areVotes_eq, l1In_eq, Option.bind_some, decide_eq_true_eq]
  by_cases h1 : Steps a b ∧ 1 ≤ c ∧ c ≤ 5
  · simp only [if_pos h1]
    have ⟨hs, hc⟩ := h1
    have ⟨ha, hb, hab⟩ := hs
    have H := Onf_on a b c 0 hs
    have e0 : Nv a b c = Onf a b c 0 0 0 := by rw [Onf_gb a b c 0 hs, Gb_nv a b c hs hc]
    have h3 := H.le 0 0
    have h4 := H.nn 0 0
    refine Ev.bs (a := TB (Onf a b c 0) (a + b) r) (Ev.bs (baNever_ev a b c hs hc) ?_) (Ev.c (by simp))
    rw [e0, w64 (n := Onf a b c 0 0 0 - 1) (by omega) (by omega)]
    refine Ev.s ?_
    unfold TB
    by_cases h2 : 0 ≤ r ∧ r ≤ Onf a b c 0 0 0 - 1
    · simp only [decide_eq_true h2, Bool.not_true, spec_NeverBehindOfRank.j0, Bool.false_eq_true, if_false]
      rw [if_pos (by omega)]
      have := specNb_tb H hc hs (a + b).toNat 0 0 r [] (by omega) (by omega) (by omega) rfl (by omega) (by omega)
      rw [show a - 0 = a from by omega, show b - 0 = b from by omega, show (0 : Int) - c * 0 = 0 from by omega] at this
      exact this
    · simp only [decide_eq_false h2, Bool.not_false, spec_NeverBehindOfRank.j0, if_true]
      rw [if_neg (by omega)]
      exact Ev.now _
  · simp only [if_neg h1]
    refine Ev.bs (a := (⟨#[]⟩, false)) (Ev.s ?_) (Ev.c (by simp))
    simp only [spec_NeverBehindOfRank.j0, if_true]
    exact Ev.now _

end Go.Proofs.Ytblofikjcmjaeaa.Pure
