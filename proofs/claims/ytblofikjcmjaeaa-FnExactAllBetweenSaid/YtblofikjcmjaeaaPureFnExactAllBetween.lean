/- The plain law of the statement FnExactAllBetween: what the program's function computes is what the reference's computes, for all arguments; no condition. -/
import Derived.Test.YtblofikjcmjaeaaPFnExactAllBetweenx5
namespace Go.Proofs.Ytblofikjcmjaeaa.Pure
open Go.RowKit Go.Proofs.Ytblofikjcmjaeaa.PFnExactAllBetween Go.Proofs.YtblofikjcmjaeaaW.PrintWords Go.Proofs.YtblofikjcmjaeaaW.PrintLast Go.Proofs.YtblofikjcmjaeaaW.PrintMore

def C : Nat → Nat → Nat
  | _, 0 => 1
  | 0, _ + 1 => 0
  | n + 1, k + 1 => C n k + C n (k + 1)
theorem C_zero (n : Nat) : C n 0 = 1 := by cases n <;> rfl
theorem C_zs (k : Nat) : C 0 (k + 1) = 0 := rfl
theorem C_ss (n k : Nat) : C (n + 1) (k + 1) = C n k + C n (k + 1) := rfl
theorem C_lt : ∀ (n k : Nat), n < k → C n k = 0
  | 0, k + 1, _ => rfl
  | n + 1, k + 1, h => by rw [C_ss, C_lt n k (by omega), C_lt n (k + 1) (by omega)]
theorem C_self : ∀ n : Nat, C n n = 1
  | 0 => rfl
  | n + 1 => by rw [C_ss, C_self n, C_lt n (n + 1) (by omega)]
theorem C_pos : ∀ (n k : Nat), k ≤ n → 1 ≤ C n k
  | n, 0, _ => by rw [C_zero]; omega
  | n + 1, k + 1, h => by rw [C_ss]; have := C_pos n k (by omega); omega
theorem C_absorb : ∀ (n k : Nat), C (n + 1) (k + 1) * (k + 1) = (n + 1) * C n k
  | 0, 0 => rfl
  | 0, k + 1 => by rw [C_lt 1 (k + 2) (by omega), C_lt 0 (k + 1) (by omega)]; omega
  | n + 1, 0 => by
    have h := C_absorb n 0
    rw [C_ss, C_zero] ; rw [C_zero] at h; omega
  | n + 1, k + 1 => by
    have h1 := C_absorb n k
    have h2 := C_absorb n (k + 1)
    rw [C_ss (n + 1) (k + 1)]
    rw [C_ss n k] at h1 ⊢
    grind
theorem C_step (n k : Nat) (h : k ≤ n) : C n (k + 1) * (k + 1) = C n k * (n - k) := by
  have h1 := C_absorb n k
  rw [C_ss] at h1
  obtain ⟨d, rfl⟩ : ∃ d, n = k + d := ⟨n - k, by omega⟩
  rw [Nat.add_sub_cancel_left]
  grind
theorem C_symm : ∀ (n k : Nat), k ≤ n → C n (n - k) = C n k
  | 0, 0, _ => rfl
  | n + 1, 0, _ => by rw [Nat.sub_zero, C_self, C_zero]
  | n + 1, k + 1, h => by
    by_cases e : k = n
    · subst e; rw [Nat.sub_self, C_zero, C_self]
    · have h1 := C_symm n k (by omega)
      have h2 := C_symm n (k + 1) (by omega)
      have e1 : n + 1 - (k + 1) = (n - (k + 1)) + 1 := by omega
      rw [e1, C_ss, C_ss, h2]
      have e2 : n - (k + 1) + 1 = n - k := by omega
      rw [e2, h1]; omega
theorem C_le : ∀ (n k : Nat), C n k ≤ 2 ^ n
  | n, 0 => by rw [C_zero]; exact Nat.one_le_two_pow
  | 0, k + 1 => by rw [C_zs]; omega
  | n + 1, k + 1 => by
    rw [C_ss, Nat.pow_succ]
    cases n with
    | zero => cases k with
      | zero => decide
      | succ k => simp [C]
    | succ m =>
      have h1 := C_le (m+1) k
      have h2 := C_le (m+1) (k + 1)
      omega
theorem C_le40 (n k : Nat) (h : n ≤ 40) : C n k ≤ 1099511627776 := by
  have h1 := C_le n k
  have h2 : 2 ^ n ≤ 2 ^ 40 := Nat.pow_le_pow_right (by omega) h
  omega

theorem Ev.s {α : Type} {g : Nat → Option α} {r : α} (h : Ev (fun k => g (k + 1)) r) : Ev g r := by
  obtain ⟨K, hK⟩ := h
  refine ⟨K + 1, fun k hk => ?_⟩
  obtain ⟨m, rfl⟩ : ∃ m, k = m + 1 := ⟨k - 1, by omega⟩
  exact hK m (by omega)
theorem Ev.c {α : Type} {o : Option α} {r : α} (h : o = some r) : Ev (fun _ => o) r := ⟨0, fun _ _ => h⟩
theorem Ev.u {α : Type} {g : Nat → Option α} {r r' : α} (h : Ev g r) (h' : Ev g r') : r = r' := by
  obtain ⟨K, hK⟩ := h
  obtain ⟨K', hK'⟩ := h'
  have a := hK (max K K') (by omega)
  have b := hK' (max K K') (by omega)
  rw [a] at b
  exact Option.some.inj b
theorem Ev.e {α : Type} {g : Nat → Option α} {r r' : α} (h : Ev g r) (e : r = r') : Ev g r' := e ▸ h
theorem Ev.bs {α β : Type} {g : Nat → Option α} {f : Nat → α → Option β} {a : α} {r : β} (h : Ev g a) (k : Ev (fun n => f n a) r) : Ev (fun n => Option.bind (g n) (f n)) r := Ev.bind h k
theorem w64 {n : Int} (h : -9223372036854775808 ≤ n) (h' : n ≤ 9223372036854775807) : wrap64 n = n := by unfold wrap64; omega
theorem rd_set (l : List Int) (i j : Int) (v : Int) (hi : 0 ≤ i) (hj : 0 ≤ j) (hl : i < (l.length : Int)) : rd (l.set i.toNat v) j = if i = j then v else rd l j := by
  unfold rd
  rw [List.getD_eq_getElem?_getD, List.getD_eq_getElem?_getD, List.getElem?_set]
  by_cases e : i = j
  · subst e; rw [if_pos rfl, if_pos rfl, if_pos (by omega)]; rfl
  · rw [if_neg (by omega), if_neg e]

theorem in_eq (a b c : Int) : impl_in.f a b c = some (decide (b ≤ a ∧ a ≤ c)) := by
  unfold impl_in.f
  by_cases h : b ≤ a
  · rw [if_pos h]; simp [h]
  · rw [if_neg h]; simp [h]

theorem l1In_eq (a b c : Int) : spec_l1In.f a b c = some (decide (b ≤ a ∧ a ≤ c)) := by
  unfold spec_l1In.f
  by_cases h : a ≥ b
  · rw [if_pos h]; simp [h]
  · rw [if_neg h]; simp [h]

def Cz (n j : Int) : Int := if 0 ≤ j ∧ j ≤ n then (C n.toNat j.toNat : Int) else 0
theorem Cz_nat (n j : Nat) : Cz (n : Int) (j : Int) = (C n j : Int) := by
  unfold Cz
  by_cases h : j ≤ n
  · rw [if_pos (by omega)]; simp
  · rw [if_neg (by omega), C_lt n j (by omega)]; rfl
theorem Cz_le (n j : Int) (hn : n ≤ 40) : 0 ≤ Cz n j ∧ Cz n j ≤ 1099511627776 := by
  unfold Cz
  split
  · have := C_le40 n.toNat j.toNat (by omega); omega
  · omega
theorem Cz_symm (a b : Int) (ha : 0 ≤ a) (hb : 0 ≤ b) : Cz (a + b) b = Cz (a + b) a := by
  unfold Cz
  rw [if_pos (by omega), if_pos (by omega)]
  have h := C_symm (a + b).toNat a.toNat (by omega)
  rw [show (a + b).toNat - a.toNat = b.toNat from by omega] at h
  rw [h]

theorem l1Least_eq (a b : Int) : spec_l1Least.f a b = some (min a b) := by
  unfold spec_l1Least.f
  by_cases h : a < b
  · rw [if_pos h]; congr 1; omega
  · rw [if_neg h]; congr 1; omega
def PRow (J : Nat) (l : List Int) (i j : Nat) : Prop :=
  l.length = J + 1 ∧ ∀ t : Nat, t ≤ J → rd l (t : Int) = if j < t then (C (i + 1) t : Int) else (C i t : Int)
theorem pa_l1 (n J : Nat) (hn : n ≤ 40) (hJ : J ≤ 40) (i : Nat) (hi : i < n) (j : Nat) : ∀ (l : List Int), j ≤ J → PRow J l i j →
    ∃ l', PRow J l' i 0 ∧ ∀ r, Ev (fun k => spec_paChoose.l0 k (n : Int) (J : Int) l' ((i + 2 : Nat) : Int)) r → Ev (fun k => spec_paChoose.l1 k (n : Int) (J : Int) l ((i + 1 : Nat) : Int) (j : Int)) r := by
  induction j with
  | zero =>
    intro l _ hl
    refine ⟨l, hl, fun r h => ?_⟩
    refine Ev.s ?_
    have e : wrap64 (((i + 1 : Nat) : Int) + 1) = ((i + 2 : Nat) : Int) := by rw [w64 (by omega) (by omega)]; omega
    have hz : ¬ (((0 : Nat) : Int) > 0) := by omega
    simp only [spec_paChoose.l1, if_neg hz, e]
    exact h
  | succ j ih =>
    intro l hj hl
    obtain ⟨hlen, hl⟩ := hl
    have a1 := hl (j + 1) hj
    have a2 := hl j (by omega)
    rw [if_neg (by omega)] at a1 a2
    have b1 := C_le40 i (j + 1) (by omega)
    have b2 := C_le40 i j (by omega)
    have e1 : wrap64 (((j + 1 : Nat) : Int) - 1) = (j : Int) := by rw [w64 (by omega) (by omega)]; omega
    have e2 : wrap64 ((C i (j + 1) : Int) + (C i j : Int)) = (C (i + 1) (j + 1) : Int) := by rw [w64 (by omega) (by omega), C_ss]; omega
    obtain ⟨l', h', hr⟩ := ih (l.set ((j + 1 : Nat) : Int).toNat (C (i + 1) (j + 1) : Int)) (by omega) (by
      refine ⟨by simpa using hlen, fun t ht => ?_⟩
      rw [rd_set _ _ _ _ (by omega) (by omega) (by omega)]
      by_cases e : ((j + 1 : Nat) : Int) = (t : Int)
      · have : t = j + 1 := by omega
        subst this
        rw [if_pos rfl, if_pos (by omega)]
      · rw [if_neg e, hl t ht]
        by_cases c : j < t
        · rw [if_pos c, if_pos (by omega)]
        · rw [if_neg c, if_neg (by omega)])
    refine ⟨l', h', fun r h => ?_⟩
    refine Ev.s ?_
    have c1 : ((j + 1 : Nat) : Int) > 0 := by omega
    have c2 : (0 : Int) ≤ ((j + 1 : Nat) : Int) := by omega
    have c3 : ((j + 1 : Nat) : Int) < (l.length : Int) := by omega
    have c4 : (0 : Int) ≤ (j : Int) := by omega
    have c5 : (j : Int) < (l.length : Int) := by omega
    simp only [spec_paChoose.l1, e1, a1, a2, e2, if_pos c1, if_pos c2, if_pos c3, if_pos c4, if_pos c5]
    exact hr r h
theorem pa_l0 (n J : Nat) (hn : n ≤ 40) (hJ : J ≤ 40) (d : Nat) : ∀ (i : Nat) (l : List Int), i + d = n → PRow J l i J →
    Ev (fun k => spec_paChoose.l0 k (n : Int) (J : Int) l ((i + 1 : Nat) : Int)) (C n J : Int) := by
  induction d with
  | zero =>
    intro i l hi hl
    obtain rfl : i = n := by omega
    obtain ⟨hlen, hl⟩ := hl
    have a := hl J (Nat.le_refl _)
    rw [if_neg (by omega)] at a
    refine Ev.s ?_
    have c1 : ¬ (((i + 1 : Nat) : Int) ≤ (i : Int)) := by omega
    have c2 : (0 : Int) ≤ (J : Int) := by omega
    have c3 : (J : Int) < (l.length : Int) := by omega
    simp only [spec_paChoose.l0, if_neg c1, if_pos c2, if_pos c3, a]
    exact Ev.now _
  | succ d ih =>
    intro i l hi hl
    have hmin : min (((i + 1 : Nat) : Int)) (J : Int) = ((min (i + 1) J : Nat) : Int) := by omega
    have hl2 : PRow J l i (min (i + 1) J) := by
      refine ⟨hl.1, fun t ht => ?_⟩
      have := hl.2 t ht
      rw [if_neg (by omega)] at this
      by_cases c : min (i + 1) J < t
      · rw [if_pos c, this, C_lt i t (by omega), C_lt (i + 1) t (by omega)]
      · rw [if_neg c, this]
    obtain ⟨l', h', hr⟩ := pa_l1 n J hn hJ i (by omega) (min (i + 1) J) l (by omega) hl2
    refine Ev.s ?_
    have c1 : (((i + 1 : Nat) : Int) ≤ (n : Int)) := by omega
    simp only [spec_paChoose.l0, if_pos c1, l1Least_eq, Option.bind_some, hmin]
    refine hr _ (ih (i + 1) l' (by omega) ⟨h'.1, fun t ht => ?_⟩)
    have := h'.2 t ht
    rw [if_neg (by omega), this]
    by_cases c : 0 < t
    · rw [if_pos c]
    · rw [if_neg c]; obtain rfl : t = 0 := by omega
      rw [C_zero, C_zero]
theorem paChoose_ev (n j : Int) (hn : n ≤ 40) : Ev (fun k => spec_paChoose.f k n j) (Cz n j) := by
  unfold spec_paChoose.f
  by_cases h0 : j < 0
  · simp only [if_pos h0]
    refine Ev.s ?_
    simp only [spec_paChoose.j0, if_true]
    have : Cz n j = 0 := by unfold Cz; rw [if_neg (by omega)]
    rw [this]; exact Ev.now _
  · simp only [if_neg h0]
    refine Ev.s ?_
    by_cases h1 : j > n
    · simp only [spec_paChoose.j0, decide_eq_true h1, if_true]
      have : Cz n j = 0 := by unfold Cz; rw [if_neg (by omega)]
      rw [this]; exact Ev.now _
    · have e1 : wrap64 (j + 1) = j + 1 := by rw [w64 (by omega) (by omega)]
      obtain ⟨J, rfl⟩ : ∃ J : Nat, j = (J : Int) := ⟨j.toNat, by omega⟩
      obtain ⟨N, rfl⟩ : ∃ N : Nat, n = (N : Int) := ⟨n.toNat, by omega⟩
      have e2 : ((J : Int) + 1).toNat = J + 1 := by omega
      have c1 : (0 : Int) ≤ (J : Int) + 1 := by omega
      have c2 : J + 1 ≤ 35184372088832 := by omega
      have c3 : (0 : Int) < ((List.replicate (J + 1) (0 : Int)).length : Int) := by rw [List.length_replicate]; omega
      have hb : decide ((J : Int) > (N : Int)) = false := decide_eq_false h1
      simp only [spec_paChoose.j0, hb, e1, e2, if_pos c1, if_pos c2, Option.bind_some, if_pos c3, Bool.false_eq_true, if_false]
      rw [Cz_nat]
      refine pa_l0 N J (by omega) (by omega) N 0 _ (by omega) ⟨by simp, fun t ht => ?_⟩
      have h0 : ¬ (J < t) := by omega
      have hr : ∀ u : Nat, rd (List.replicate (J + 1) (0 : Int)) (u : Int) = 0 := by
        intro u
        unfold rd
        rw [List.getD_eq_getElem?_getD, List.getElem?_replicate]
        split <;> rfl
      rw [rd_set _ _ _ _ (by omega) (by omega) c3]
      simp only [if_neg h0]
      by_cases e : (0 : Int) = (t : Int)
      · obtain rfl : t = 0 := by omega
        simp [C_zero]
      · obtain ⟨s, rfl⟩ : ∃ s, t = s + 1 := ⟨t - 1, by omega⟩
        simp only [if_neg e, C_zs]
        exact hr _

def Steps (a b : Int) : Prop := (0 ≤ a ∧ a ≤ 40) ∧ (0 ≤ b ∧ b ≤ 40) ∧ a + b ≤ 40
instance (a b : Int) : Decidable (Steps a b) := by unfold Steps; infer_instance
theorem paSteps_eq (a b : Int) : spec_paSteps.f a b = some (decide (Steps a b)) := by
  unfold spec_paSteps.f Steps
  simp only [l1In_eq, Option.bind_some, decide_eq_true_eq]
  by_cases ha : 0 ≤ a ∧ a ≤ 40
  · by_cases hb : 0 ≤ b ∧ b ≤ 40
    · rw [w64 (by omega) (by omega)]; simp [ha, hb]
    · simp [ha, hb]
  · simp [ha]
theorem areSteps_eq (a b : Int) : impl_areSteps.f a b = some (decide (Steps a b)) := by
  unfold impl_areSteps.f Steps
  simp only [in_eq, Option.bind_some, decide_eq_true_eq]
  by_cases ha : 0 ≤ a ∧ a ≤ 40
  · by_cases hb : 0 ≤ b ∧ b ≤ 40
    · rw [w64 (by omega) (by omega)]; simp [ha, hb]
    · simp [ha, hb]
  · simp [ha]

theorem drop_rd (l : List Int) (i : Nat) (h : i < l.length) : l.drop i = rd l (i : Int) :: l.drop (i + 1) := by
  rw [List.drop_eq_getElem_cons h]
  unfold rd
  rw [Int.toNat_natCast, List.getD_eq_getElem?_getD, List.getElem?_eq_getElem h]
  rfl
theorem rd_get (l : List Int) (i : Nat) (h : i < l.length) : rd l (i : Int) = l[i] := by
  unfold rd
  rw [Int.toNat_natCast, List.getD_eq_getElem?_getD, List.getElem?_eq_getElem h]
  rfl
theorem wsucc (i n : Nat) (h : i < n) (hn : n ≤ 9223372036854775807) : wrap64 ((i : Int) + 1) = ((i + 1 : Nat) : Int) := by
  rw [w64 (by omega) (by omega)]; omega
theorem rd_cons_succ (x : Int) (l : List Int) (i : Nat) : rd (x :: l) ((i + 1 : Nat) : Int) = rd l (i : Int) := by
  unfold rd
  simp only [Int.toNat_natCast, List.getD_cons_succ]
theorem rd_cons_zero (x : Int) (l : List Int) : rd (x :: l) 0 = x := rfl

theorem wnatM (n : Nat) (h : n ≤ 9223372036854775807) : wrap64 (n : Int) = (n : Int) := w64 (by omega) (by omega)

/-- How many paths of n steps lead to height h. -/
def To (n h : Int) : Int := if (n + h) % 2 = 0 then Cz n ((n + h) / 2) else 0
theorem tmod2 (x : Int) : Int.tmod x 2 = 0 ↔ x % 2 = 0 := by
  rw [← Int.dvd_iff_tmod_eq_zero, ← Int.dvd_iff_emod_eq_zero]
theorem tdiv2 (x : Int) (h : x % 2 = 0) : Int.tdiv x 2 = x / 2 := by
  obtain ⟨q, rfl⟩ : ∃ q, x = 2 * q := ⟨x / 2, by omega⟩
  rw [Int.mul_tdiv_cancel_left _ (by omega)]; omega
theorem To_le (n h : Int) (hn : n ≤ 40) : 0 ≤ To n h ∧ To n h ≤ 1099511627776 := by
  unfold To
  split
  · exact Cz_le _ _ hn
  · omega
theorem To_ends (a b : Int) : To (a + b) (a - b) = Cz (a + b) a := by
  unfold To
  rw [if_pos (by omega), show (a + b + (a - b)) / 2 = a from by omega]
theorem To_far (n h : Int) (hh : n < h ∨ n < -h) : To n h = 0 := by
  unfold To
  split
  · unfold Cz; rw [if_neg (by omega)]
  · rfl

theorem l1Most_eq (a b : Int) : spec_l1Most.f a b = some (max a b) := by
  unfold spec_l1Most.f
  by_cases h : a > b
  · rw [if_pos h]; congr 1; omega
  · rw [if_neg h]; congr 1; omega
theorem l1Abs_eq (a : Int) (h : -100000 ≤ a ∧ a ≤ 100000) : spec_l1Abs.f a = some (max a (-a)) := by
  unfold spec_l1Abs.f
  rw [w64 (by omega) (by omega), l1Most_eq]; rfl
theorem miTo_ev (n h : Int) (hn : -1000 ≤ n ∧ n ≤ 40) (hh : -100000 ≤ h ∧ h ≤ 100000) : Ev (fun k => spec_miTo.f k n h) (To n h) := by
  unfold spec_miTo.f
  have e1 : wrap64 (n + h) = n + h := w64 (by omega) (by omega)
  simp only [e1, tmod2, l1Abs_eq h hh, Option.bind_some]
  by_cases h2 : (n + h) % 2 = 0
  · simp only [if_pos h2, tdiv2 _ h2]
    rw [w64 (n := (n + h) / 2) (by omega) (by omega)]
    by_cases h3 : max h (-h) > n
    · simp only [if_pos h3]; rw [To_far n h (by omega)]; exact Ev.now _
    · simp only [if_neg h3]; unfold To; rw [if_pos h2]
      refine Ev.bs (paChoose_ev _ _ (by omega)) (Ev.now _)
  · simp only [if_neg h2]; unfold To; rw [if_neg h2]; exact Ev.now _

theorem Cz_pascal (n j : Int) (hn : 0 ≤ n) : Cz (n + 1) j = Cz n (j - 1) + Cz n j := by
  unfold Cz
  by_cases h0 : 0 ≤ j
  · by_cases h1 : j = 0
    · subst h1
      rw [if_pos (by omega), if_neg (by omega), if_pos (by omega), Int.toNat_zero, C_zero, C_zero]; rfl
    · obtain ⟨m, rfl⟩ : ∃ m : Nat, j = (m : Int) + 1 := ⟨(j - 1).toNat, by omega⟩
      obtain ⟨N, rfl⟩ : ∃ N : Nat, n = (N : Int) := ⟨n.toNat, by omega⟩
      have e1 : ((N : Int) + 1).toNat = N + 1 := by omega
      have e2 : ((m : Int) + 1).toNat = m + 1 := by omega
      have e3 : ((m : Int) + 1 - 1).toNat = m := by omega
      rw [e1, e2, e3, Int.toNat_natCast, C_ss]
      by_cases c : m ≤ N
      · by_cases c2 : m + 1 ≤ N
        · rw [if_pos (by omega), if_pos (by omega), if_pos (by omega)]; omega
        · rw [if_pos (by omega), if_pos (by omega), if_neg (by omega), C_lt N (m + 1) (by omega)]; omega
      · rw [if_neg (by omega), if_neg (by omega), if_neg (by omega)]; rfl
  · rw [if_neg (by omega), if_neg (by omega), if_neg (by omega)]; rfl
theorem To_step (n h : Int) (hn : 0 ≤ n) : To (n + 1) h = To n (h - 1) + To n (h + 1) := by
  unfold To
  by_cases c : (n + 1 + h) % 2 = 0
  · rw [if_pos c, if_pos (by omega), if_pos (by omega), Cz_pascal n _ hn]
    have e1 : (n + 1 + h) / 2 - 1 = (n + (h - 1)) / 2 := by omega
    have e2 : (n + 1 + h) / 2 = (n + (h + 1)) / 2 := by omega
    rw [e1, e2]
  · rw [if_neg c, if_neg (by omega), if_neg (by omega)]; rfl
theorem To_neg (n h : Int) (hn : 0 ≤ n) : To n (-h) = To n h := by
  unfold To
  by_cases c : (n + h) % 2 = 0
  · rw [if_pos c, if_pos (by omega)]
    unfold Cz
    by_cases d : 0 ≤ (n + h) / 2 ∧ (n + h) / 2 ≤ n
    · rw [if_pos d, if_pos (by omega)]
      have := C_symm n.toNat ((n + h) / 2).toNat (by omega)
      rw [show n.toNat - ((n + h) / 2).toNat = ((n + -h) / 2).toNat from by omega] at this
      rw [this]
    · rw [if_neg d, if_neg (by omega)]
  · rw [if_neg c, if_neg (by omega)]
theorem To_zero (h : Int) (hh : h ≠ 0) : To 0 h = 0 := To_far 0 h (by omega)
theorem To_one : To 0 0 = 1 := by decide
/-- f(-K) + .. + f(K). -/
def sumK (f : Int → Int) : Nat → Int
  | 0 => f 0
  | K + 1 => sumK f K + f ((K : Int) + 1) + f (-((K : Int) + 1))
theorem sumK_congr {f g : Int → Int} (K : Nat) (h : ∀ k, -(K : Int) ≤ k → k ≤ K → f k = g k) : sumK f K = sumK g K := by
  induction K with
  | zero => exact h 0 (by omega) (by omega)
  | succ K ih => simp only [sumK]; rw [ih (fun k h1 h2 => h k (by omega) (by omega)), h _ (by omega) (by omega), h _ (by omega) (by omega)]
theorem sumK_add (f g : Int → Int) (K : Nat) : sumK (fun k => f k + g k) K = sumK f K + sumK g K := by
  induction K with
  | zero => rfl
  | succ K ih => simp only [sumK, ih]; omega
theorem sumK_sub (f g : Int → Int) (K : Nat) : sumK (fun k => f k - g k) K = sumK f K - sumK g K := by
  induction K with
  | zero => rfl
  | succ K ih => simp only [sumK, ih]; omega
theorem sumK_flip (f : Int → Int) (K : Nat) : sumK (fun k => f (-k)) K = sumK f K := by
  induction K with
  | zero => rfl
  | succ K ih => simp only [sumK, ih, Int.neg_neg]; omega
theorem sumK_shift (f : Int → Int) (K : Nat) : sumK (fun k => f (k + 1)) K = sumK f K + f ((K : Int) + 1) - f (-(K : Int)) := by
  induction K with
  | zero => simp only [sumK]; simp; omega
  | succ K ih =>
    simp only [sumK, ih]
    rw [show -((K : Int) + 1) + 1 = -(K : Int) from by omega]
    simp only [Int.natCast_add, Int.natCast_one]
    omega
theorem sumK_zero (f : Int → Int) (K : Nat) (h : ∀ k, -(K : Int) ≤ k → k ≤ K → f k = 0) : sumK f K = 0 := by
  induction K with
  | zero => exact h 0 (by omega) (by omega)
  | succ K ih => simp only [sumK]; rw [ih (fun k h1 h2 => h k (by omega) (by omega)), h _ (by omega) (by omega), h _ (by omega) (by omega)]; rfl
theorem sumK_stable (f : Int → Int) (n d : Nat) (h : ∀ k, (k < -(n : Int) ∨ (n : Int) < k) → f k = 0) : sumK f (n + d) = sumK f n := by
  induction d with
  | zero => rfl
  | succ d ih => rw [← Nat.add_assoc]; simp only [sumK, ih]; rw [h _ (by omega), h _ (by omega)]; omega
/-- The alternating sum. -/
def Alt (K : Nat) (n e lo hi : Int) : Int := sumK (fun k => To n (e + 2 * k * (hi - lo + 2)) - To n (2 * (hi + 1) - e + 2 * k * (hi - lo + 2))) K
theorem Alt_step (K : Nat) (n e lo hi : Int) (hn : 0 ≤ n) : Alt K (n + 1) e lo hi = Alt K n (e - 1) (lo - 1) (hi - 1) + Alt K n (e + 1) (lo + 1) (hi + 1) := by
  unfold Alt
  rw [← sumK_add]
  refine sumK_congr K fun k _ _ => ?_
  rw [To_step n _ hn, To_step n _ hn]
  rw [show hi - 1 - (lo - 1) + 2 = hi - lo + 2 from by omega, show hi + 1 - (lo + 1) + 2 = hi - lo + 2 from by omega]
  generalize 2 * k * (hi - lo + 2) = z
  rw [show e + z - 1 = e - 1 + z from by omega, show e + z + 1 = e + 1 + z from by omega,
    show 2 * (hi + 1) - e + z - 1 = 2 * (hi + 1 + 1) - (e + 1) + z - 2 from by omega,
    show 2 * (hi + 1) - e + z + 1 = 2 * (hi - 1 + 1) - (e - 1) + z + 2 from by omega]
  rw [show 2 * (hi + 1 + 1) - (e + 1) + z - 2 = 2 * (hi - 1 + 1) - (e - 1) + z from by omega,
    show 2 * (hi - 1 + 1) - (e - 1) + z + 2 = 2 * (hi + 1 + 1) - (e + 1) + z from by omega]
  omega
theorem mul_ge (k w : Int) (hk : 1 ≤ k) (hw : 2 ≤ w) : 2 * k ≤ k * w ∧ w ≤ k * w := by
  obtain ⟨a, rfl⟩ : ∃ a : Nat, k = (a : Int) + 1 := ⟨(k - 1).toNat, by omega⟩
  obtain ⟨b, rfl⟩ : ∃ b : Nat, w = (b : Int) + 2 := ⟨(w - 2).toNat, by omega⟩
  have e : ((a : Int) + 1) * ((b : Int) + 2) = (a : Int) * (b : Int) + 2 * a + b + 2 := by grind
  have h : 0 ≤ (a : Int) * (b : Int) := Int.mul_nonneg (by omega) (by omega)
  omega
/-- Beyond the upper wall. -/
theorem Alt_up (K : Nat) (n e lo : Int) (hn : 0 ≤ n) : Alt K n e lo (-1) = 0 := by
  unfold Alt
  rw [sumK_sub]
  have : sumK (fun k => To n (2 * (-1 + 1) - e + 2 * k * (-1 - lo + 2))) K = sumK (fun k => To n (e + 2 * k * (-1 - lo + 2))) K := by
    rw [← sumK_flip]
    refine sumK_congr K fun k _ _ => ?_
    rw [← To_neg n _ hn]
    congr 1
    grind
  rw [this]; omega
/-- Beyond the lower wall. -/
theorem Alt_down (K : Nat) (n e hi : Int) (hn : 0 ≤ n) (hK : n ≤ K) (hh : 1 ≤ hi) (he : 1 ≤ e ∧ e ≤ hi) : Alt K n e 1 hi = 0 := by
  unfold Alt
  rw [sumK_sub]
  have e1 : sumK (fun k => To n (2 * (hi + 1) - e + 2 * k * (hi - 1 + 2))) K = sumK (fun k => To n (e + 2 * (-(k + 1)) * (hi - 1 + 2))) K := by
    refine sumK_congr K fun k _ _ => ?_
    rw [← To_neg n _ hn]
    congr 1
    grind
  have e2 : sumK (fun k => To n (e + 2 * (-(k + 1)) * (hi - 1 + 2))) K = sumK (fun k => To n (e + 2 * (-k) * (hi - 1 + 2))) K + To n (e + 2 * (-((K : Int) + 1)) * (hi - 1 + 2)) - To n (e + 2 * (-(-(K : Int))) * (hi - 1 + 2)) :=
    sumK_shift (fun k => To n (e + 2 * (-k) * (hi - 1 + 2))) K
  have e3 : sumK (fun k => To n (e + 2 * (-k) * (hi - 1 + 2))) K = sumK (fun k => To n (e + 2 * k * (hi - 1 + 2))) K := sumK_flip (fun k => To n (e + 2 * k * (hi - 1 + 2))) K
  have hk1 := mul_ge ((K : Int) + 1) (hi - 1 + 2) (by omega) (by omega)
  have z1 : To n (e + 2 * (-((K : Int) + 1)) * (hi - 1 + 2)) = 0 := by
    refine To_far n _ (Or.inr ?_)
    have : 2 * (-((K : Int) + 1)) * (hi - 1 + 2) = -(2 * (((K : Int) + 1) * (hi - 1 + 2))) := by grind
    omega
  have z2 : To n (e + 2 * (-(-(K : Int))) * (hi - 1 + 2)) = 0 := by
    refine To_far n _ (Or.inl ?_)
    have : 2 * (-(-(K : Int))) * (hi - 1 + 2) = 2 * ((K : Int) * (hi - 1 + 2)) := by grind
    by_cases c : K = 0
    · subst c; simp at this; simp; omega
    · have hk2 := mul_ge (K : Int) (hi - 1 + 2) (by omega) (by omega)
      omega
  rw [e1, e2, e3, z1, z2]; omega
theorem Alt_base (K : Nat) (e lo hi : Int) (h0 : lo ≤ 0 ∧ 0 ≤ hi) (he : lo ≤ e ∧ e ≤ hi) : Alt K 0 e lo hi = if e = 0 then 1 else 0 := by
  unfold Alt
  have hk : ∀ k : Int, (k ≠ 0 → 2 * (hi - lo + 2) ≤ 2 * k * (hi - lo + 2) ∨ 2 * k * (hi - lo + 2) ≤ -(2 * (hi - lo + 2))) := by
    intro k hk
    rcases Int.lt_or_lt_of_ne hk with c | c
    · have := mul_ge (-k) (hi - lo + 2) (by omega) (by omega)
      have e : 2 * k * (hi - lo + 2) = -(2 * (-k * (hi - lo + 2))) := by grind
      omega
    · have := mul_ge k (hi - lo + 2) (by omega) (by omega)
      have e : 2 * k * (hi - lo + 2) = 2 * (k * (hi - lo + 2)) := by grind
      omega
  have term : ∀ k : Int, k ≠ 0 → To 0 (e + 2 * k * (hi - lo + 2)) - To 0 (2 * (hi + 1) - e + 2 * k * (hi - lo + 2)) = 0 := by
    intro k h
    have := hk k h
    rw [To_zero _ (by omega), To_zero _ (by omega)]; rfl
  have st := sumK_stable (fun k => To 0 (e + 2 * k * (hi - lo + 2)) - To 0 (2 * (hi + 1) - e + 2 * k * (hi - lo + 2))) 0 K (fun k h => term k (by omega))
  rw [Nat.zero_add] at st
  rw [st]
  simp only [sumK]
  rw [show e + 2 * 0 * (hi - lo + 2) = e from by simp, show 2 * (hi + 1) - e + 2 * 0 * (hi - lo + 2) = 2 * (hi + 1) - e from by simp]
  rw [To_zero (2 * (hi + 1) - e) (by omega)]
  split
  · subst e; rw [To_one]; rfl
  · rw [To_zero e ‹_›]; rfl
/-- How many ways of n steps from 0 to e stay between lo and hi. -/
def Way (n : Nat) (e lo hi : Int) : Int :=
  if lo ≤ 0 ∧ 0 ≤ hi then (match n with | 0 => if e = 0 then 1 else 0 | m + 1 => Way m (e - 1) (lo - 1) (hi - 1) + Way m (e + 1) (lo + 1) (hi + 1)) else 0
theorem Way_out (n : Nat) (e lo hi : Int) (h : ¬ (lo ≤ 0 ∧ 0 ≤ hi)) : Way n e lo hi = 0 := by
  cases n <;> simp only [Way, if_neg h]
theorem Way_zero (e lo hi : Int) (h : lo ≤ 0 ∧ 0 ≤ hi) : Way 0 e lo hi = if e = 0 then 1 else 0 := by simp only [Way, if_pos h]
theorem Way_succ (n : Nat) (e lo hi : Int) (h : lo ≤ 0 ∧ 0 ≤ hi) : Way (n + 1) e lo hi = Way n (e - 1) (lo - 1) (hi - 1) + Way n (e + 1) (lo + 1) (hi + 1) := by simp only [Way, if_pos h]
theorem Way_far : ∀ (n : Nat) (e lo hi : Int), (e < -(n : Int) ∨ (n : Int) < e) → Way n e lo hi = 0
  | 0, e, lo, hi, h => by
    by_cases c : lo ≤ 0 ∧ 0 ≤ hi
    · rw [Way_zero _ _ _ c, if_neg (by omega)]
    · exact Way_out _ _ _ _ c
  | n + 1, e, lo, hi, h => by
    by_cases c : lo ≤ 0 ∧ 0 ≤ hi
    · rw [Way_succ _ _ _ _ c, Way_far n (e - 1) _ _ (by omega), Way_far n (e + 1) _ _ (by omega)]; rfl
    · exact Way_out _ _ _ _ c
theorem Way_end : ∀ (n : Nat) (e lo hi : Int), ¬ (lo ≤ e ∧ e ≤ hi) → Way n e lo hi = 0
  | 0, e, lo, hi, h => by
    by_cases c : lo ≤ 0 ∧ 0 ≤ hi
    · rw [Way_zero _ _ _ c, if_neg (by omega)]
    · exact Way_out _ _ _ _ c
  | n + 1, e, lo, hi, h => by
    by_cases c : lo ≤ 0 ∧ 0 ≤ hi
    · rw [Way_succ _ _ _ _ c, Way_end n (e - 1) _ _ (by omega), Way_end n (e + 1) _ _ (by omega)]; rfl
    · exact Way_out _ _ _ _ c
/-- The reflection principle between two walls. -/
theorem Way_alt : ∀ (n K : Nat) (e lo hi : Int), n ≤ K → lo ≤ hi + 1 → (lo ≤ 1 ∧ -1 ≤ hi) → lo ≤ e ∧ e ≤ hi → Way n e lo hi = Alt K n e lo hi := by
  intro n
  induction n with
  | zero =>
    intro K e lo hi hK hlh hb he
    by_cases c : lo ≤ 0 ∧ 0 ≤ hi
    · rw [Way_zero _ _ _ c]; exact (Alt_base K e lo hi c he).symm
    · rw [Way_out _ _ _ _ c]
      by_cases d : hi = -1
      · subst d; exact (Alt_up K 0 e lo (by omega)).symm
      · obtain rfl : lo = 1 := by omega
        exact (Alt_down K 0 e hi (by omega) (by omega) (by omega) he).symm
  | succ n ih =>
    intro K e lo hi hK hlh hb he
    by_cases c : lo ≤ 0 ∧ 0 ≤ hi
    · rw [Way_succ _ _ _ _ c, Int.natCast_succ, Alt_step K n e lo hi (by omega), ih K (e - 1) (lo - 1) (hi - 1) (by omega) (by omega) (by omega) (by omega), ih K (e + 1) (lo + 1) (hi + 1) (by omega) (by omega) (by omega) (by omega)]
    · rw [Way_out _ _ _ _ c]
      by_cases d : hi = -1
      · subst d; exact (Alt_up K _ e lo (by omega)).symm
      · obtain rfl : lo = 1 := by omega
        exact (Alt_down K _ e hi (by omega) (by omega) (by omega) he).symm

def sumL (f : Int → Int) : Nat → Int → Int
  | 0, _ => 0
  | n + 1, s => f s + sumL f n (s + 1)
theorem sumL_snoc (f : Int → Int) : ∀ (n : Nat) (s : Int), sumL f (n + 1) s = sumL f n s + f (s + n)
  | 0, s => by simp [sumL]
  | n + 1, s => by
    rw [sumL, sumL_snoc f n (s + 1), sumL, show s + 1 + (n : Int) = s + ((n + 1 : Nat) : Int) from by omega]; omega
theorem sumL_sumK (f : Int → Int) : ∀ K : Nat, sumL f (2 * K + 1) (-(K : Int)) = sumK f K
  | 0 => by simp [sumL, sumK]
  | K + 1 => by
    rw [show 2 * (K + 1) + 1 = (2 * K + 1 + 1) + 1 from by omega, sumL, show -((K + 1 : Nat) : Int) + 1 = -(K : Int) from by omega, sumL_snoc, sumL_sumK f K]
    simp only [sumK]
    rw [show -(K : Int) + ((2 * K + 1 : Nat) : Int) = (K : Int) + 1 from by omega, show -((K + 1 : Nat) : Int) = -((K : Int) + 1) from by omega]
    omega
theorem mul_in (x y A B : Int) (h1 : -A ≤ x) (h2 : x ≤ A) (h3 : 0 ≤ y) (h4 : y ≤ B) (hA : 0 ≤ A) : -(A * B) ≤ x * y ∧ x * y ≤ A * B := by
  have a1 := Int.mul_le_mul_of_nonneg_right h2 h3
  have a2 := Int.mul_le_mul_of_nonneg_left h4 hA
  have a3 := Int.mul_le_mul_of_nonneg_right h1 h3
  rw [Int.neg_mul] at a3
  omega
/-- One pair of the alternating sum. -/
def Am (n e hi W : Int) (k : Int) : Int := To n (e + 2 * k * W) - To n (2 * (hi + 1) - e + 2 * k * W)
theorem miCount_l0 (n e hi W : Int) (hn : 0 ≤ n ∧ n ≤ 40) (he : -100 ≤ e ∧ e ≤ 100) (hh : -100 ≤ hi ∧ hi ≤ 100) (hW : 0 ≤ W ∧ W ≤ 300) : ∀ (d : Nat) (x acc : Int), x + d = n + 1 → -40 ≤ x →
    -(2199023255552 * (x + 41)) ≤ acc → acc ≤ 2199023255552 * (x + 41) → Ev (fun k => spec_miCount.l0 k n e hi W acc x) (acc + sumL (Am n e hi W) d x)
  | 0, x, acc, hx, h0, a1, a2 => by
    refine Ev.s ?_
    simp only [spec_miCount.l0]
    simp only [if_neg (show ¬ x ≤ n by omega), sumL, Int.add_zero]
    exact Ev.now _
  | d + 1, x, acc, hx, h0, a1, a2 => by
    refine Ev.s ?_
    simp only [spec_miCount.l0]
    have hm := mul_in (2 * x) W 80 300 (by omega) (by omega) hW.1 hW.2 (by omega)
    have t1 := To_le n (e + 2 * x * W) hn.2
    have t2 := To_le n (2 * (hi + 1) - e + 2 * x * W) hn.2
    rw [w64 (n := 2 * x) (by omega) (by omega), w64 (n := 2 * x * W) (by omega) (by omega), w64 (n := e + 2 * x * W) (by omega) (by omega), w64 (n := hi + 1) (by omega) (by omega), w64 (n := 2 * (hi + 1)) (by omega) (by omega), w64 (n := 2 * (hi + 1) - e) (by omega) (by omega), w64 (n := 2 * (hi + 1) - e + 2 * x * W) (by omega) (by omega), w64 (n := x + 1) (by omega) (by omega)]
    simp only [if_pos (show x ≤ n by omega)]
    have hA : Am n e hi W x = To n (e + 2 * x * W) - To n (2 * (hi + 1) - e + 2 * x * W) := rfl
    refine Ev.bs (miTo_ev n _ (by omega) (by omega)) (Ev.bs (miTo_ev n _ (by omega) (by omega)) ?_)
    rw [w64 (n := To n (e + 2 * x * W) - To n (2 * (hi + 1) - e + 2 * x * W)) (by omega) (by omega), w64 (n := acc + _) (by omega) (by omega)]
    have := miCount_l0 n e hi W hn he hh hW d (x + 1) (acc + (To n (e + 2 * x * W) - To n (2 * (hi + 1) - e + 2 * x * W))) (by omega) (by omega) (by omega) (by omega)
    refine Ev.e this ?_
    rw [sumL, hA]; omega
theorem miCount_ev (n e lo hi : Int) (hn : 0 ≤ n ∧ n ≤ 40) (hl : -100 ≤ lo ∧ lo ≤ 100) (hh : -100 ≤ hi ∧ hi ≤ 100) (hx : lo ≤ hi + 2) (hb : lo ≤ 1 ∧ -1 ≤ hi) : Ev (fun k => spec_miCount.f k n e lo hi) (Way n.toNat e lo hi) := by
  unfold spec_miCount.f
  simp only [l1In_eq, Option.bind_some, decide_eq_true_eq]
  by_cases h : lo ≤ e ∧ e ≤ hi
  · simp only [if_pos h]
    rw [w64 (n := hi - lo) (by omega) (by omega), w64 (n := hi - lo + 2) (by omega) (by omega), w64 (n := -n) (by omega) (by omega)]
    refine Ev.e (miCount_l0 n e hi (hi - lo + 2) hn (by omega) hh (by omega) (2 * n.toNat + 1) (-n) 0 (by omega) (by omega) (by omega) (by omega)) ?_
    rw [Way_alt n.toNat n.toNat e lo hi (Nat.le_refl _) (by omega) hb h, Int.zero_add]
    have := sumL_sumK (Am n e hi (hi - lo + 2)) n.toNat
    rw [show -((n.toNat : Nat) : Int) = -n from by omega] at this
    rw [this]
    unfold Alt
    rw [show ((n.toNat : Nat) : Int) = n from by omega]
    rfl
  · simp only [if_neg h]
    rw [Way_end _ _ _ _ h]
    exact Ev.now _
/-- The memo's count is the ways between walls. -/
theorem wayG_way (a b lo hi : Int) : ∀ (n : Nat) (u d : Int), u ≤ a → d ≤ b → a + b - u - d = n → wayG (fun u d => ¬ (lo ≤ u - d ∧ u - d ≤ hi)) a b (n + 1) u d = Way n ((a - u) - (b - d)) (lo - (u - d)) (hi - (u - d))
  | 0, u, d, hu, hd, hn => by
    unfold wayG
    by_cases hc : lo ≤ u - d ∧ u - d ≤ hi
    · rw [if_neg (by rintro (h | h | h) <;> first | omega | exact h hc), if_pos (by omega), Way_zero _ _ _ (by omega), if_pos (by omega)]
    · rw [if_pos (.inr (.inr hc)), Way_out _ _ _ _ (by omega)]
  | n + 1, u, d, hu, hd, hn => by
    unfold wayG
    by_cases hc : lo ≤ u - d ∧ u - d ≤ hi
    · rw [if_neg (by rintro (h | h | h) <;> first | omega | exact h hc), if_neg (by omega), Way_succ _ _ _ _ (by omega)]
      have e1 : wayG (fun u d => ¬ (lo ≤ u - d ∧ u - d ≤ hi)) a b (n + 1) (u + 1) d = Way n ((a - u) - (b - d) - 1) (lo - (u - d) - 1) (hi - (u - d) - 1) := by
        by_cases h : u + 1 ≤ a
        · rw [wayG_way a b lo hi n (u + 1) d h hd (by omega)]; congr 1 <;> omega
        · unfold wayG
          rw [if_pos (.inl (by omega)), Way_far _ _ _ _ (by omega)]
      have e2 : wayG (fun u d => ¬ (lo ≤ u - d ∧ u - d ≤ hi)) a b (n + 1) u (d + 1) = Way n ((a - u) - (b - d) + 1) (lo - (u - d) + 1) (hi - (u - d) + 1) := by
        by_cases h : d + 1 ≤ b
        · rw [wayG_way a b lo hi n u (d + 1) hu h (by omega)]; congr 1 <;> omega
        · unfold wayG
          rw [if_pos (.inr (.inl (by omega))), Way_far _ _ _ _ (by omega)]
      rw [e1, e2]
    · rw [if_pos (.inr (.inr hc)), Way_out _ _ _ _ (by omega)]
theorem wayF_way (a b lo hi : Int) (hs : Steps a b) : wayF (fun u d => ¬ (lo ≤ u - d ∧ u - d ≤ hi)) a b 0 0 = Way (a + b).toNat (a - b) lo hi := by
  unfold wayF
  have ⟨ha, hb, hab⟩ := hs
  rw [if_pos ⟨hab, by omega, by omega⟩, show (a + b + 1 - 0 - 0).toNat = (a + b).toNat + 1 from by omega, wayG_way a b lo hi _ 0 0 ha.1 hb.1 (by omega)]
  congr 1 <;> omega
def Walls (lo hi : Int) : Prop := (-40 ≤ lo ∧ lo ≤ 0) ∧ (0 ≤ hi ∧ hi ≤ 40)
instance (lo hi : Int) : Decidable (Walls lo hi) := by unfold Walls; infer_instance
theorem miWalls_eq (a b : Int) : spec_miWalls.f a b = some (decide (Walls a b)) := by
  unfold spec_miWalls.f Walls
  simp only [l1In_eq, Option.bind_some, decide_eq_true_eq]
  by_cases h : -40 ≤ a ∧ a ≤ 0
  · rw [if_pos h]; simp [h]
  · rw [if_neg h]; simp [h]
theorem areWalls_eq (a b : Int) : impl_areWalls.f a b = some (decide (Walls a b)) := by
  unfold impl_areWalls.f Walls
  simp only [in_eq, Option.bind_some, decide_eq_true_eq]
  by_cases h : -40 ≤ a ∧ a ≤ 0
  · rw [if_pos h]; simp [h]
  · rw [if_neg h]; simp [h]

theorem strOf_snoc (xs : List Int) (c : Int) (u : UInt8) (h : strOfNums [c] = ⟨#[u]⟩) : strOfNums (xs ++ [c]) = strOfNums xs ++ (⟨#[u]⟩ : ByteArray) := by
  have e : ∀ (a b : List Int), (strOfNums (a ++ b)).data = (strOfNums a).data ++ (strOfNums b).data := by
    intro a b
    unfold strOfNums
    simp
  apply ByteArray.ext
  rw [e, h]
  simp [ByteArray.data_append]
theorem strOf_D (xs : List Int) : strOfNums (xs ++ [68]) = strOfNums xs ++ (⟨#[68]⟩ : ByteArray) := strOf_snoc xs 68 68 rfl
theorem strOf_U (xs : List Int) : strOfNums (xs ++ [85]) = strOfNums xs ++ (⟨#[85]⟩ : ByteArray) := strOf_snoc xs 85 85 rfl
theorem strOf_len (xs : List Int) : (strOfNums xs).size = xs.length := by
  unfold strOfNums
  simp [ByteArray.size]

theorem wF_out {out : Int → Int → Prop} [∀ u d, Decidable (out u d)] {a b : Int} {F : Int → Int → Int} (H : OnF out a b F) {u d : Int} (h1 : 0 ≤ u) (h2 : u ≤ 41) (h3 : 0 ≤ d) (h4 : d ≤ 41) (h : u > a ∨ d > b ∨ out u d) : F u d = 0 := by
  rw [H.eq u d h1 h2 h3 h4, if_pos h]
theorem wF_end {out : Int → Int → Prop} [∀ u d, Decidable (out u d)] {a b : Int} {F : Int → Int → Int} (H : OnF out a b F) (h1 : 0 ≤ a) (h2 : a ≤ 41) (h3 : 0 ≤ b) (h4 : b ≤ 41) (h : ¬ out a b) : F a b = 1 := by
  rw [H.eq a b h1 h2 h3 h4, if_neg (by rintro (g | g | g) <;> first | omega | exact h g), if_pos ⟨rfl, rfl⟩]
theorem wF_step {out : Int → Int → Prop} [∀ u d, Decidable (out u d)] {a b : Int} {F : Int → Int → Int} (H : OnF out a b F) {u d : Int} (h1 : 0 ≤ u) (h2 : u ≤ a) (ha : a ≤ 40) (h3 : 0 ≤ d) (h4 : d ≤ b) (hb : b ≤ 40) (h : ¬ out u d) (hne : ¬ (u = a ∧ d = b)) : F u d = F (u + 1) d + F u (d + 1) := by
  rw [H.eq u d h1 (by omega) h3 (by omega), if_neg (by rintro (g | g | g) <;> first | omega | exact h g), if_neg hne]
abbrev OutN (k l u d : Int) : Prop := u + d > 0 ∧ u - k * d < l
theorem alive {out : Int → Int → Prop} [∀ u d, Decidable (out u d)] {A B : Int} {F : Int → Int → Int} (H : OnF out A B F) {u d : Int} (h1 : 0 ≤ u) (h2 : u ≤ 41) (h3 : 0 ≤ d) (h4 : d ≤ 41) (hp : 0 < F u d) : u ≤ A ∧ d ≤ B ∧ ¬ out u d := by
  have := H.eq u d h1 h2 h3 h4
  by_cases c : u > A ∨ d > B ∨ out u d
  · rw [if_pos c] at this; omega
  · exact ⟨by by_cases z : u > A; exact absurd (.inl z) c; omega, by by_cases z : d > B; exact absurd (.inr (.inl z)) c; omega, fun z => c (.inr (.inr z))⟩

/-- The texts that lead on, n steps being left, in their order. -/
def Ls (F : Int → Int → Int) : Nat → Int → Int → List (List Int)
  | 0, _, _ => [[]]
  | n + 1, u, d => (if 0 < F u (d + 1) then (Ls F n u (d + 1)).map (68 :: ·) else []) ++ (if 0 < F (u + 1) d then (Ls F n (u + 1) d).map (85 :: ·) else [])
/-- What is asked of a count of the ways that lead on. -/
structure WayF (F : Int → Int → Int) (a b : Int) : Prop where
  nn : ∀ u d, 0 ≤ F u d
  step : ∀ u d, 0 ≤ u → 0 ≤ d → u + d < a + b → 0 < F u d → F u d = F u (d + 1) + F (u + 1) d
  stop : ∀ u d, 0 ≤ u → 0 ≤ d → u + d = a + b → F u d = 0 ∨ F u d = 1
theorem Ls_len {F : Int → Int → Int} {a b : Int} (H : WayF F a b) : ∀ (n : Nat) (u d : Int), 0 ≤ u → 0 ≤ d → u + d + n = a + b → 0 < F u d → ((Ls F n u d).length : Int) = F u d
  | 0, u, d, hu, hd, hn, hp => by
    have := H.stop u d hu hd (by omega)
    simp only [Ls, List.length_singleton]; omega
  | n + 1, u, d, hu, hd, hn, hp => by
    have hs := H.step u d hu hd (by omega) hp
    have h1 := H.nn u (d + 1)
    have h2 := H.nn (u + 1) d
    simp only [Ls, List.length_append]
    have e1 : (((if 0 < F u (d + 1) then (Ls F n u (d + 1)).map (68 :: ·) else []).length : Nat) : Int) = F u (d + 1) := by
      split
      · rename_i h
        rw [List.length_map, Ls_len H n u (d + 1) hu (by omega) (by omega) h]
      · rw [List.length_nil]; omega
    have e2 : (((if 0 < F (u + 1) d then (Ls F n (u + 1) d).map (85 :: ·) else []).length : Nat) : Int) = F (u + 1) d := by
      split
      · rename_i h
        rw [List.length_map, Ls_len H n (u + 1) d (by omega) hd (by omega) h]
      · rw [List.length_nil]; omega
    omega
theorem tb_Ls {F : Int → Int → Int} {a b : Int} (H : WayF F a b) : ∀ (n : Nat) (u d r : Int) (out : List Int), 0 ≤ u → 0 ≤ d → u + d + n = a + b → 0 ≤ r → r < F u d → tb F n u d r out = out ++ (Ls F n u d).getD r.toNat []
  | 0, u, d, r, out, hu, hd, hn, h0, hr => by
    have := H.stop u d hu hd (by omega)
    obtain rfl : r = 0 := by omega
    simp [tb, Ls]
  | n + 1, u, d, r, out, hu, hd, hn, h0, hr => by
    have hs := H.step u d hu hd (by omega) (by omega)
    have h1 := H.nn u (d + 1)
    have h2 := H.nn (u + 1) d
    simp only [tb, Ls]
    by_cases hc : r < F u (d + 1)
    · rw [if_pos hc, if_pos (by omega), tb_Ls H n u (d + 1) r (out ++ [68]) hu (by omega) (by omega) h0 hc]
      have hl := Ls_len H n u (d + 1) hu (by omega) (by omega) (by omega)
      have hlt : r.toNat < (Ls F n u (d + 1)).length := by omega
      rw [List.getD_eq_getElem?_getD, List.getD_eq_getElem?_getD, List.getElem?_append_left (by rw [List.length_map]; exact hlt), List.getElem?_map, List.getElem?_eq_getElem hlt]
      simp
    · rw [if_neg hc, tb_Ls H n (u + 1) d (r - F u (d + 1)) (out ++ [85]) (by omega) hd (by omega) (by omega) (by omega)]
      have e1 : (((if 0 < F u (d + 1) then (Ls F n u (d + 1)).map (68 :: ·) else []).length : Nat) : Int) = F u (d + 1) := by
        split
        · rename_i h
          rw [List.length_map, Ls_len H n u (d + 1) hu (by omega) (by omega) h]
        · rw [List.length_nil]; omega
      have hl := Ls_len H n (u + 1) d (by omega) hd (by omega) (by omega)
      have hlt : (r - F u (d + 1)).toNat < (Ls F n (u + 1) d).length := by omega
      rw [List.getD_eq_getElem?_getD, List.getD_eq_getElem?_getD, List.getElem?_append_right (by omega), if_pos (by omega : 0 < F (u + 1) d), List.getElem?_map]
      rw [show r.toNat - (if 0 < F u (d + 1) then (Ls F n u (d + 1)).map (68 :: ·) else []).length = (r - F u (d + 1)).toNat from by omega]
      rw [List.getElem?_eq_getElem hlt]
      simp

theorem wayF_of {out : Int → Int → Prop} [∀ u d, Decidable (out u d)] {A B : Int} {F : Int → Int → Int} (H : OnF out A B F) (hs : Steps A B) : WayF F A B where
  nn := H.nn
  step := fun u d hu hd hn hp => by
    have ⟨hA, hB, hAB⟩ := hs
    have hal := alive H hu (by omega) hd (by omega) hp
    rw [wF_step H hu hal.1 hA.2 hd hal.2.1 hB.2 hal.2.2 (by omega), Int.add_comm]
  stop := fun u d hu hd hn => by
    have ⟨hA, hB, hAB⟩ := hs
    rw [H.eq u d hu (by omega) hd (by omega)]
    by_cases c : u > A ∨ d > B ∨ out u d
    · rw [if_pos c]; exact .inl rfl
    · rw [if_neg c]
      have h1 : ¬ u > A := fun h => c (.inl h)
      have h2 : ¬ d > B := fun h => c (.inr (.inl h))
      rw [if_pos (by omega)]; exact .inr rfl
theorem AO_Ls {F : Int → Int → Int} {A B : Int} (H : WayF F A B) (hs : Steps A B) (h : ¬ F 0 0 > 300) : AO F (A + B) 300 = (if 0 < F 0 0 then (Ls F (A + B).toNat 0 0).map strOfNums else [], true) := by
  have ⟨hA, hB, hAB⟩ := hs
  unfold AO
  rw [if_neg h]
  congr 1
  have h0 := H.nn 0 0
  by_cases hp : 0 < F 0 0
  · rw [if_pos hp]
    have hl := Ls_len H (A + B).toNat 0 0 (by omega) (by omega) (by omega) hp
    refine List.ext_getElem (by rw [List.length_map, List.length_map, List.length_range]; omega) (fun i h1 h2 => ?_)
    rw [List.length_map, List.length_range] at h1
    rw [List.length_map] at h2
    rw [List.getElem_map, List.getElem_map, List.getElem_range]
    unfold TB
    rw [if_pos (by omega), tb_Ls H (A + B).toNat 0 0 (i : Int) [] (by omega) (by omega) (by omega) (by omega) (by omega)]
    show strOfNums ([] ++ _) = _
    rw [List.nil_append, Int.toNat_natCast, List.getD_eq_getElem?_getD, List.getElem?_eq_getElem h2]
    rfl
  · rw [if_neg hp, show (F 0 0).toNat = 0 from by omega]
    rfl

theorem strOfNums_one (x : Int) : (strOfNums [x]).size = 1 := rfl
theorem markText_ev (n : Nat) (hn : n ≤ 1000000) : ∃ r, Ev (fun k => laws_markText.f k (n : Int)) r := by
  have key : ∀ (m n : Nat) (x : ByteArray), n ≤ m → n + x.size ≤ 2000000 → ∃ r, Ev (fun k => laws_markText.l0 k (n : Int) x) r := by
    intro m
    induction m with
    | zero =>
      intro n x h hx
      refine ⟨(⟨#[109]⟩ : ByteArray) ++ x, Ev.s ?_⟩
      have c : ¬ ((n : Int) > 0) := by omega
      have c2 : 1 + x.size ≤ 9223372036854775807 := by omega
      simp only [laws_markText.l0, if_neg c, if_pos c2]
      exact Ev.now _
    | succ m ih =>
      intro n x h hx
      by_cases c : (n : Int) > 0
      · have e : Int.tdiv (n : Int) 10 = ((n / 10 : Nat) : Int) := by rw [Int.tdiv_eq_ediv_of_nonneg (by omega)]; omega
        have sz : (strOfNums [(wrap64 (48 + (Int.tmod (n : Int) 10))) % 256] ++ x).size = 1 + x.size := by rw [ByteArray.size_append, strOfNums_one]
        obtain ⟨r, hr⟩ := ih (n / 10) (strOfNums [(wrap64 (48 + (Int.tmod (n : Int) 10))) % 256] ++ x) (by omega) (by rw [sz]; omega)
        refine ⟨r, Ev.s ?_⟩
        have c2 : (strOfNums [(wrap64 (48 + (Int.tmod (n : Int) 10))) % 256]).size + x.size ≤ 9223372036854775807 := by rw [strOfNums_one]; omega
        have w := wnatM (n / 10) (by omega)
        simp only [laws_markText.l0, if_pos c, Option.bind_some, if_pos c2, e, w]
        exact hr
      · refine ⟨(⟨#[109]⟩ : ByteArray) ++ x, Ev.s ?_⟩
        have c2 : 1 + x.size ≤ 9223372036854775807 := by omega
        simp only [laws_markText.l0, if_neg c, if_pos c2]
        exact Ev.now _
  unfold laws_markText.f
  by_cases c : (n : Int) ≤ 0
  · simp only [if_pos c]; exact ⟨_, Ev.now _⟩
  · simp only [if_neg c]; exact key n n _ (Nat.le_refl _) (by show n + 0 ≤ 2000000; omega)
theorem markText_fn : ∃ f : Nat → ByteArray, ∀ n : Nat, n ≤ 1000000 → Ev (fun k => laws_markText.f k (n : Int)) (f n) :=
  ⟨fun n => if h : n ≤ 1000000 then (markText_ev n h).choose else ⟨#[]⟩, fun n h => by
    show Ev _ (if h : n ≤ 1000000 then (markText_ev n h).choose else ⟨#[]⟩)
    rw [dif_pos h]; exact (markText_ev n h).choose_spec⟩
theorem rdOf_get (d : ByteArray) (l : List ByteArray) (i : Nat) (h : i < l.length) : rdOf d l (i : Int) = l[i] := by
  unfold rdOf
  rw [Int.toNat_natCast, List.getD_eq_getElem?_getD, List.getElem?_eq_getElem h]
  rfl
theorem eqStringS_ev (l : List ByteArray) (hn : l.length ≤ 1000000) : Ev (fun k => laws_eqStringS.f k l l) true := by
  have key : ∀ (d i : Nat), i + d = l.length → Ev (fun k => laws_eqStringS.l0 k l l (i : Int)) true := by
    intro d
    induction d with
    | zero =>
      intro i hi
      refine Ev.s ?_
      have c : ¬ ((i : Int) < (l.length : Int)) := by omega
      simp only [laws_eqStringS.l0, if_neg c]
      exact Ev.now _
    | succ d ih =>
      intro i hi
      refine Ev.s ?_
      have c1 : ((i : Int) < (l.length : Int)) := by omega
      have c2 : (0 : Int) ≤ (i : Int) := by omega
      simp only [laws_eqStringS.l0, if_pos c1, if_pos c2, if_true, wsucc i l.length (by omega) (by omega)]
      exact ih (i + 1) (by omega)
  unfold laws_eqStringS.f
  simp only [if_true]
  exact key l.length 0 (by omega)
/-- The marks of a row of texts. -/
def upT (f : Nat → ByteArray) : Nat → List ByteArray
  | 0 => []
  | n + 1 => upT f n ++ [f (n + 1)]
theorem upT_len (f : Nat → ByteArray) : ∀ n, (upT f n).length = n
  | 0 => rfl
  | n + 1 => by rw [upT, List.length_append, upT_len f n, List.length_singleton]
theorem upT_get (f : Nat → ByteArray) : ∀ (n i : Nat) (h : i < (upT f n).length), (upT f n)[i] = f (i + 1)
  | n + 1, i, h => by
    rw [upT_len] at h
    by_cases c : i = n
    · subst c
      simp only [upT]
      rw [List.getElem_append_right (by rw [upT_len]; exact Nat.le_refl _)]
      simp
    · simp only [upT]
      rw [List.getElem_append_left (by rw [upT_len]; omega)]
      exact upT_get f n i _
theorem markStringS_ev (f : Nat → ByteArray) (hf : ∀ n : Nat, n ≤ 1000000 → Ev (fun k => laws_markText.f k (n : Int)) (f n)) (l : List ByteArray) (hl : l.length ≤ 999999) : Ev (fun k => laws_markStringS.f k l 1) (1 + (l.length : Int), upT f l.length) := by
  have key : ∀ (d i : Nat) (m : List ByteArray), i + d = l.length → m.length = l.length → m.take i = upT f i → Ev (fun k => laws_markStringS.l0 k m ((i + 1 : Nat) : Int) (i : Int)) (1 + (l.length : Int), upT f l.length) := by
    intro d
    induction d with
    | zero =>
      intro i m hi hm ht
      refine Ev.s ?_
      have c : ¬ ((i : Int) < (m.length : Int)) := by omega
      simp only [laws_markStringS.l0, if_neg c]
      rw [List.take_of_length_le (by omega)] at ht
      rw [ht, show i = l.length from by omega, show ((l.length + 1 : Nat) : Int) = 1 + (l.length : Int) from by omega]
      exact Ev.now _
    | succ d ih =>
      intro i m hi hm ht
      refine Ev.s ?_
      have c1 : ((i : Int) < (m.length : Int)) := by omega
      have c2 : (0 : Int) ≤ (i : Int) := by omega
      have hnext := ih (i + 1) (m.set i (f (i + 1))) (by omega) (by simpa using hm) (by
        rw [List.take_succ_eq_append_getElem (by simp; omega), List.take_set_of_le (by omega), ht, upT]
        simp)
      have e := wsucc i l.length (by omega) (by omega)
      have e2 := wsucc (i + 1) 1000000 (by omega) (by omega)
      simp only [laws_markStringS.l0, if_pos c1, if_pos c2, e, e2, Int.toNat_natCast]
      exact Ev.bs (hf (i + 1) (by omega)) hnext
  exact key l.length 0 l (by omega) rfl rfl
theorem heldStringS_ev (f : Nat → ByteArray) (hf : ∀ n : Nat, n ≤ 1000000 → Ev (fun k => laws_markText.f k (n : Int)) (f n)) (n : Nat) (hn : n ≤ 999999) : Ev (fun k => laws_heldStringS.f k (upT f n) 1) (1 + (n : Int)) := by
  have key : ∀ (d i : Nat), i + d = n → Ev (fun k => laws_heldStringS.l0 k (upT f n) ((i + 1 : Nat) : Int) (i : Int)) (1 + (n : Int)) := by
    intro d
    induction d with
    | zero =>
      intro i hi
      refine Ev.s ?_
      have c : ¬ ((i : Int) < ((upT f n).length : Int)) := by rw [upT_len]; omega
      simp only [laws_heldStringS.l0, if_neg c]
      rw [show ((i + 1 : Nat) : Int) = 1 + (n : Int) from by omega]
      exact Ev.now _
    | succ d ih =>
      intro i hi
      refine Ev.s ?_
      have c1 : ((i : Int) < ((upT f n).length : Int)) := by rw [upT_len]; omega
      have c2 : (0 : Int) ≤ (i : Int) := by omega
      have c3 : rdOf ByteArray.empty (upT f n) (i : Int) = f (i + 1) := by rw [rdOf_get _ _ _ (by rw [upT_len]; omega)]; exact upT_get f n i _
      have hnext := ih (i + 1) (by omega)
      have hfi := hf (i + 1) (by omega)
      have e := wsucc i n (by omega) (by omega)
      have e2 := wsucc (i + 1) 1000000 (by omega) (by omega)
      simp only [laws_heldStringS.l0, if_pos c1, if_pos c2, c3]
      refine Ev.bs hfi ?_
      simp only [if_true, e, e2]
      exact hnext
  exact key n 0 (by omega)

theorem AllBetween_frame (a b c d : Int) (v : List ByteArray) (t : Bool) (hv : v.length ≤ 999999) (e1 : Ev (fun k => spec_AllBetween.f k a b c d) (v, t)) (e2 : impl_AllBetween.f a b c d = some (v, t)) : Ev (fun k => laws_FnExactAllBetween.f k a b c d) true := by
  obtain ⟨f, hf⟩ := markText_fn
  have hh := heldStringS_ev f hf v.length hv
  unfold laws_FnExactAllBetween.f
  refine Ev.bs e1 ?_
  simp only [e2, Option.bind_some]
  refine Ev.bs (eqStringS_ev v (by omega)) ?_
  simp only [if_true, bne_self_eq_false]
  refine Ev.s ?_
  simp only [laws_FnExactAllBetween.j0, Bool.false_eq_true, if_false]
  refine Ev.bs (markStringS_ev f hf v hv) (Ev.bs hh ?_)
  have c1 : ¬ (1 + (v.length : Int) < 0) := by omega
  simp only [if_neg c1, if_true, e2, Option.bind_some]
  refine Ev.bs (eqStringS_ev v (by omega)) ?_
  simp only [if_true, bne_self_eq_false]
  refine Ev.s ?_
  simp only [laws_FnExactAllBetween.j1, Bool.false_eq_true, if_false]
  refine Ev.bs hh ?_
  simp only [if_neg c1, if_true]
  exact Ev.now _
theorem fin_all : ∀ {n : Nat} {P : Fin n → Nat → Prop}, (∀ i, ∃ K, ∀ k, K ≤ k → P i k) → ∃ K, ∀ k, K ≤ k → ∀ i, P i k
  | 0, _, _ => ⟨0, fun _ _ i => i.elim0⟩
  | n + 1, P, h => by
    obtain ⟨K1, h1⟩ := fin_all (n := n) (P := fun i k => P i.castSucc k) (fun i => h i.castSucc)
    obtain ⟨K2, h2⟩ := h (Fin.last n)
    refine ⟨max K1 K2, fun k hk i => ?_⟩
    by_cases hi : i.1 < n
    · exact h1 k (by omega) ⟨i.1, hi⟩
    · have : i = Fin.last n := Fin.ext (by have := i.2; show i.1 = n; omega)
      rw [this]; exact h2 k (by omega)
theorem MiK_ev : ∃ K, ∀ k, K ≤ k → MiK k := by
  unfold MiK
  refine fin_all (fun x => fin_all (fun y => fin_all (fun p => fin_all (fun q => ?_))))
  by_cases hxy : x.1 + y.1 ≤ 40
  · have hs : Steps ((x.1 : Nat) : Int) ((y.1 : Nat) : Int) := ⟨by omega, by omega, by omega⟩
    obtain ⟨K, hK⟩ := miCount_ev (((x.1 : Nat) : Int) + ((y.1 : Nat) : Int)) (((x.1 : Nat) : Int) - ((y.1 : Nat) : Int)) (-((p.1 : Nat) : Int)) ((q.1 : Nat) : Int) (by omega) (by omega) (by omega) (by omega) (by omega)
    refine ⟨K, fun k hk _ => ?_⟩
    rw [show Nb ((x.1 : Nat) : Int) ((y.1 : Nat) : Int) (-((p.1 : Nat) : Int)) ((q.1 : Nat) : Int) = Way (((x.1 : Nat) : Int) + ((y.1 : Nat) : Int)).toNat (((x.1 : Nat) : Int) - ((y.1 : Nat) : Int)) (-((p.1 : Nat) : Int)) ((q.1 : Nat) : Int) from wayF_way _ _ _ _ hs]
    exact hK k hk
  · exact ⟨0, fun _ _ h => absurd h hxy⟩
abbrev OutW (lo hi u d : Int) : Prop := ¬ (lo ≤ u - d ∧ u - d ≤ hi)
theorem Btf_on (a b lo hi : Int) (hs : Steps a b) : OnF (OutW lo hi) a b (Btf a b lo hi) := wayF_on (OutW lo hi) a b hs.1.1 hs.2.1.1 hs.2.2
theorem Nb_Btf (a b lo hi u d : Int) (hs : Steps a b) (hu : 0 ≤ u ∧ u ≤ a) (hd : 0 ≤ d ∧ d ≤ b) : Nb (a - u) (b - d) (lo - (u - d)) (hi - (u - d)) = Btf a b lo hi u d := by
  have ⟨ha, hb, hab⟩ := hs
  rw [show Nb (a - u) (b - d) (lo - (u - d)) (hi - (u - d)) = Way ((a - u) + (b - d)).toNat ((a - u) - (b - d)) (lo - (u - d)) (hi - (u - d)) from wayF_way _ _ _ _ ⟨by omega, by omega, by omega⟩]
  unfold Btf
  rw [show wayF (fun u d => ¬ (lo ≤ u - d ∧ u - d ≤ hi)) a b u d = wayG (OutW lo hi) a b (a + b + 1 - u - d).toNat u d from wayF_in _ ⟨hab, hu.1, hd.1⟩, show (a + b + 1 - u - d).toNat = ((a - u) + (b - d)).toNat + 1 from by omega]
  exact (wayG_way a b lo hi _ u d hu.2 hd.2 (by omega)).symm
theorem Mk_Ls (a b lo hi : Int) (hs : Steps a b) : ∀ (n : Nat) (u d : Int), 0 ≤ u → 0 ≤ d → u ≤ a → d ≤ b → u + d + n = a + b → Mk lo hi n (u - d) (a - u) (b - d) = if 0 < Btf a b lo hi u d then Ls (Btf a b lo hi) n u d else []
  | 0, u, d, hu, hd, h1, h2, hn => by
    have H := Btf_on a b lo hi hs
    have h0 := H.nn u d
    unfold Mk
    rw [Nb_Btf a b lo hi u d hs ⟨hu, h1⟩ ⟨hd, h2⟩]
    by_cases c : Btf a b lo hi u d = 0
    · rw [if_pos c, if_neg (by omega)]
    · rw [if_neg c, if_pos (show 0 < Btf a b lo hi u d by omega)]; rfl
  | n + 1, u, d, hu, hd, h1, h2, hn => by
    have ⟨ha, hb, hab⟩ := hs
    have H := Btf_on a b lo hi hs
    have h0 := H.nn u d
    unfold Mk
    rw [Nb_Btf a b lo hi u d hs ⟨hu, h1⟩ ⟨hd, h2⟩]
    by_cases c : Btf a b lo hi u d = 0
    · rw [if_pos c, if_neg (by omega)]
    · rw [if_neg c, if_pos (show 0 < Btf a b lo hi u d by omega)]
      simp only [Ls]
      congr 1
      · by_cases g : 0 < b - d ∧ lo ≤ u - d - 1
        · have := Mk_Ls a b lo hi hs n u (d + 1) hu (by omega) h1 (by omega) (by omega)
          rw [show u - (d + 1) = u - d - 1 from by omega, show b - (d + 1) = b - d - 1 from by omega] at this
          rw [if_pos g, this]
          split <;> rfl
        · rw [if_neg g, if_neg]
          rw [wF_out H hu (by omega) (by omega) (by omega) (by
            by_cases z : d + 1 > b
            · exact .inr (.inl z)
            · exact .inr (.inr (fun y => g ⟨by omega, by omega⟩)))]
          decide
      · by_cases g : 0 < a - u ∧ u - d + 1 ≤ hi
        · have := Mk_Ls a b lo hi hs n (u + 1) d (by omega) hd (by omega) h2 (by omega)
          rw [show u + 1 - d = u - d + 1 from by omega, show a - (u + 1) = a - u - 1 from by omega] at this
          rw [if_pos g, this]
          split <;> rfl
        · rw [if_neg g, if_neg]
          rw [wF_out H (by omega) (by omega) hd (by omega) (by
            by_cases z : u + 1 > a
            · exact .inl z
            · exact .inr (.inr (fun y => g ⟨by omega, by omega⟩)))]
          decide
theorem FnExactAllBetween : laws_FnExactAllBetween.Pure := by
  intro a b lo hi _ _ _ _
  refine Ev.rounds ?_
  by_cases h1 : Steps a b
  · have ⟨ha, hb, hab⟩ := h1
    by_cases h2 : Walls lo hi
    · have H := Btf_on a b lo hi h1
      have e0 : Nb a b lo hi = Btf a b lo hi 0 0 := rfl
      have eL : Mk lo hi (a + b).toNat 0 a b = if 0 < Btf a b lo hi 0 0 then Ls (Btf a b lo hi) (a + b).toNat 0 0 else [] := by
        have := Mk_Ls a b lo hi h1 (a + b).toNat 0 0 (by omega) (by omega) ha.1 hb.1 (by omega)
        rw [show (0 : Int) - 0 = 0 from rfl, show a - 0 = a from by omega, show b - 0 = b from by omega] at this
        exact this
      obtain ⟨K, hK⟩ := MiK_ev
      have i0 : impl_AllBetween.f a b lo hi = some (AO (Btf a b lo hi) (a + b) 300) := by
        unfold impl_AllBetween.f
        simp only [areSteps_eq, areWalls_eq, Option.bind_some, decide_eq_true h1, decide_eq_true h2, if_true]
      have s0 : ∀ k, K ≤ k → spec_AllBetween.f k a b lo hi = (if Nb a b lo hi > 300 then some ([], false) else if (Mk lo hi (a + b).toNat 0 a b).length ≤ 300 then some ((Mk lo hi (a + b).toNat 0 a b).map strOfNums, true) else none) := fun k hk => by
        unfold spec_AllBetween.f
        simp only [paSteps_eq, miWalls_eq, Option.bind_some, decide_eq_true h1, decide_eq_true h2, if_true]
        rw [if_pos (hK k hk)]
      by_cases hq : Btf a b lo hi 0 0 > 300
      · exact AllBetween_frame a b lo hi [] false (by simp) ⟨K, fun k hk => by show spec_AllBetween.f k a b lo hi = _; rw [s0 k hk, e0, if_pos hq]⟩ (by rw [i0]; unfold AO; rw [if_pos hq])
      · have hA := AO_Ls (wayF_of H h1) h1 hq
        have hlen : (Mk lo hi (a + b).toNat 0 a b).length ≤ 300 := by
          rw [eL]
          by_cases hp : 0 < Btf a b lo hi 0 0
          · rw [if_pos hp]
            have := Ls_len (wayF_of H h1) (a + b).toNat 0 0 (by omega) (by omega) (by omega) hp
            omega
          · rw [if_neg hp]; simp
        have hm : (Mk lo hi (a + b).toNat 0 a b).map strOfNums = (if 0 < Btf a b lo hi 0 0 then (Ls (Btf a b lo hi) (a + b).toNat 0 0).map strOfNums else []) := by
          rw [eL]; split <;> rfl
        exact AllBetween_frame a b lo hi ((Mk lo hi (a + b).toNat 0 a b).map strOfNums) true (by rw [List.length_map]; omega) ⟨K, fun k hk => by show spec_AllBetween.f k a b lo hi = _; rw [s0 k hk, e0, if_neg hq, if_pos hlen]⟩ (by rw [i0, hA, hm])
    · refine AllBetween_frame a b lo hi [] false (by simp) ?_ ?_
      · unfold spec_AllBetween.f
        simp only [paSteps_eq, miWalls_eq, Option.bind_some, decide_eq_true h1, decide_eq_false h2, if_true, Bool.false_eq_true, if_false]
        exact Ev.now _
      · unfold impl_AllBetween.f
        simp only [areSteps_eq, areWalls_eq, Option.bind_some, decide_eq_true h1, decide_eq_false h2, if_true, Bool.false_eq_true, if_false]
  · refine AllBetween_frame a b lo hi [] false (by simp) ?_ ?_
    · unfold spec_AllBetween.f
      simp only [paSteps_eq, Option.bind_some, decide_eq_false h1, Bool.false_eq_true, if_false]
      exact Ev.now _
    · unfold impl_AllBetween.f
      simp only [areSteps_eq, Option.bind_some, decide_eq_false h1, Bool.false_eq_true, if_false]

end Go.Proofs.Ytblofikjcmjaeaa.Pure
