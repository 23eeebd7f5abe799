/- The plain law of the statement FnExactCountFirstPassage: what the program's function computes is what the reference's computes, for all arguments; no condition. -/
import Derived.Test.YthhnpklgodaipaaPFnExactCountFirstPassagex2
namespace Go.Proofs.Ythhnpklgodaipaa.Pure
open Go.RowKit Go.Proofs.Ythhnpklgodaipaa.PFnExactCountFirstPassage Go.Proofs.YthhnpklgodaipaaW.PrintWords Go.Proofs.YthhnpklgodaipaaW.PrintLast Go.Proofs.YthhnpklgodaipaaW.PrintMore

def C : Nat → Nat → Nat
  | _, 0 => 1
  | 0, _ + 1 => 0
  | n + 1, k + 1 => C n k + C n (k + 1)
theorem C_zero (n : Nat) : C n 0 = 1 := by cases n <;> rfl
theorem C_zs (k : Nat) : C 0 (k + 1) = 0 := rfl
theorem C_ss (n k : Nat) : C (n + 1) (k + 1) = C n k + C n (k + 1) := rfl
theorem C_lt : ∀ (n k : Nat), n < k → C n k = 0
  | 0, k + 1, _ => rfl
  | n + 1, k + 1, h => by rw [C_ss, C_lt n k (by omega), C_lt n (k + 1) (by omega)]
theorem C_self : ∀ n : Nat, C n n = 1
  | 0 => rfl
  | n + 1 => by rw [C_ss, C_self n, C_lt n (n + 1) (by omega)]
theorem C_pos : ∀ (n k : Nat), k ≤ n → 1 ≤ C n k
  | n, 0, _ => by rw [C_zero]; omega
  | n + 1, k + 1, h => by rw [C_ss]; have := C_pos n k (by omega); omega
theorem C_absorb : ∀ (n k : Nat), C (n + 1) (k + 1) * (k + 1) = (n + 1) * C n k
  | 0, 0 => rfl
  | 0, k + 1 => by rw [C_lt 1 (k + 2) (by omega), C_lt 0 (k + 1) (by omega)]; omega
  | n + 1, 0 => by
    have h := C_absorb n 0
    rw [C_ss, C_zero] ; rw [C_zero] at h; omega
  | n + 1, k + 1 => by
    have h1 := C_absorb n k
    have h2 := C_absorb n (k + 1)
    rw [C_ss (n + 1) (k + 1)]
    rw [C_ss n k] at h1 ⊢
    grind
theorem C_step (n k : Nat) (h : k ≤ n) : C n (k + 1) * (k + 1) = C n k * (n - k) := by
  have h1 := C_absorb n k
  rw [C_ss] at h1
  obtain ⟨d, rfl⟩ : ∃ d, n = k + d := ⟨n - k, by omega⟩
  rw [Nat.add_sub_cancel_left]
  grind
theorem C_symm : ∀ (n k : Nat), k ≤ n → C n (n - k) = C n k
  | 0, 0, _ => rfl
  | n + 1, 0, _ => by rw [Nat.sub_zero, C_self, C_zero]
  | n + 1, k + 1, h => by
    by_cases e : k = n
    · subst e; rw [Nat.sub_self, C_zero, C_self]
    · have h1 := C_symm n k (by omega)
      have h2 := C_symm n (k + 1) (by omega)
      have e1 : n + 1 - (k + 1) = (n - (k + 1)) + 1 := by omega
      rw [e1, C_ss, C_ss, h2]
      have e2 : n - (k + 1) + 1 = n - k := by omega
      rw [e2, h1]; omega
theorem C_le : ∀ (n k : Nat), C n k ≤ 2 ^ n
  | n, 0 => by rw [C_zero]; exact Nat.one_le_two_pow
  | 0, k + 1 => by rw [C_zs]; omega
  | n + 1, k + 1 => by
    rw [C_ss, Nat.pow_succ]
    cases n with
    | zero => cases k with
      | zero => decide
      | succ k => simp [C]
    | succ m =>
      have h1 := C_le (m+1) k
      have h2 := C_le (m+1) (k + 1)
      omega
theorem C_le40 (n k : Nat) (h : n ≤ 40) : C n k ≤ 1099511627776 := by
  have h1 := C_le n k
  have h2 : 2 ^ n ≤ 2 ^ 40 := Nat.pow_le_pow_right (by omega) h
  omega

theorem Ev.s {α : Type} {g : Nat → Option α} {r : α} (h : Ev (fun k => g (k + 1)) r) : Ev g r := by
  obtain ⟨K, hK⟩ := h
  refine ⟨K + 1, fun k hk => ?_⟩
  obtain ⟨m, rfl⟩ : ∃ m, k = m + 1 := ⟨k - 1, by omega⟩
  exact hK m (by omega)
theorem Ev.c {α : Type} {o : Option α} {r : α} (h : o = some r) : Ev (fun _ => o) r := ⟨0, fun _ _ => h⟩
theorem Ev.u {α : Type} {g : Nat → Option α} {r r' : α} (h : Ev g r) (h' : Ev g r') : r = r' := by
  obtain ⟨K, hK⟩ := h
  obtain ⟨K', hK'⟩ := h'
  have a := hK (max K K') (by omega)
  have b := hK' (max K K') (by omega)
  rw [a] at b
  exact Option.some.inj b
theorem Ev.e {α : Type} {g : Nat → Option α} {r r' : α} (h : Ev g r) (e : r = r') : Ev g r' := e ▸ h
theorem Ev.bs {α β : Type} {g : Nat → Option α} {f : Nat → α → Option β} {a : α} {r : β} (h : Ev g a) (k : Ev (fun n => f n a) r) : Ev (fun n => Option.bind (g n) (f n)) r := Ev.bind h k
theorem w64 {n : Int} (h : -9223372036854775808 ≤ n) (h' : n ≤ 9223372036854775807) : wrap64 n = n := by unfold wrap64; omega
theorem rd_set (l : List Int) (i j : Int) (v : Int) (hi : 0 ≤ i) (hj : 0 ≤ j) (hl : i < (l.length : Int)) : rd (l.set i.toNat v) j = if i = j then v else rd l j := by
  unfold rd
  rw [List.getD_eq_getElem?_getD, List.getD_eq_getElem?_getD, List.getElem?_set]
  by_cases e : i = j
  · subst e; rw [if_pos rfl, if_pos rfl, if_pos (by omega)]; rfl
  · rw [if_neg (by omega), if_neg e]

theorem in_eq (a b c : Int) : impl_in.f a b c = some (decide (b ≤ a ∧ a ≤ c)) := by
  unfold impl_in.f
  by_cases h : b ≤ a
  · rw [if_pos h]; simp [h]
  · rw [if_neg h]; simp [h]
theorem l1In_eq (a b c : Int) : spec_l1In.f a b c = some (decide (b ≤ a ∧ a ≤ c)) := by
  unfold spec_l1In.f
  by_cases h : a ≥ b
  · rw [if_pos h]; simp [h]
  · rw [if_neg h]; simp [h]
theorem choose_l0 (n : Nat) (hn : n ≤ 40) (j : Nat) (hj : j ≤ n) (d : Nat) : ∀ i : Nat, i + d = j →
    Ev (fun k => impl_choose.l0 k (n : Int) (C n i : Int) (j : Int) (i : Int)) (C n j : Int) := by
  induction d with
  | zero =>
    intro i hi
    obtain rfl : i = j := by omega
    refine Ev.s ?_
    simp (disch := omega) only [impl_choose.l0, if_neg]
    exact Ev.now _
  | succ d ih =>
    intro i hi
    refine Ev.s ?_
    have hb := C_le40 n i hn
    have hs := C_step n i (by omega)
    have hm : C n i * (n - i) ≤ 1099511627776 * 40 := Nat.mul_le_mul hb (by omega)
    have e1 : wrap64 ((n : Int) - (i : Int)) = ((n - i : Nat) : Int) := by rw [w64 (by omega) (by omega)]; omega
    have e2 : wrap64 ((i : Int) + 1) = ((i + 1 : Nat) : Int) := by rw [w64 (by omega) (by omega)]; omega
    have e3 : wrap64 ((C n i : Int) * ((n - i : Nat) : Int)) = ((C n (i + 1) * (i + 1) : Nat) : Int) := by
      rw [hs, ← Int.natCast_mul, w64 (by omega) (by omega)]
    have e4 : Int.tdiv ((C n (i + 1) * (i + 1) : Nat) : Int) ((i + 1 : Nat) : Int) = (C n (i + 1) : Int) := by
      rw [Int.natCast_mul]; exact Int.mul_tdiv_cancel _ (by omega)
    have e5 : wrap64 (C n (i + 1) : Int) = (C n (i + 1) : Int) := by
      have := C_le40 n (i + 1) hn
      rw [w64 (by omega) (by omega)]
    have hz : ¬ (((i + 1 : Nat) : Int) = 0) := by omega
    have hlt : (i : Int) < (j : Int) := by omega
    simp only [impl_choose.l0, e1, e2, e3, e4, e5, if_neg hz, if_pos hlt]
    exact ih (i + 1) (by omega)
/-- What `choose` comes to. -/
def Cz (n j : Int) : Int := if 0 ≤ j ∧ j ≤ n then (C n.toNat j.toNat : Int) else 0
theorem Cz_nat (n j : Nat) : Cz (n : Int) (j : Int) = (C n j : Int) := by
  unfold Cz
  by_cases h : j ≤ n
  · rw [if_pos (by omega)]; simp
  · rw [if_neg (by omega), C_lt n j (by omega)]; rfl
theorem Cz_le (n j : Int) (hn : n ≤ 40) : 0 ≤ Cz n j ∧ Cz n j ≤ 1099511627776 := by
  unfold Cz
  split
  · have := C_le40 n.toNat j.toNat (by omega); omega
  · omega
theorem Cz_symm (a b : Int) (ha : 0 ≤ a) (hb : 0 ≤ b) : Cz (a + b) b = Cz (a + b) a := by
  unfold Cz
  rw [if_pos (by omega), if_pos (by omega)]
  have h := C_symm (a + b).toNat a.toNat (by omega)
  rw [show (a + b).toNat - a.toNat = b.toNat from by omega] at h
  rw [h]
theorem choose_ev (n j : Int) (hn : n ≤ 40) : Ev (fun k => impl_choose.f k n j) (Cz n j) := by
  unfold impl_choose.f
  simp only [in_eq, Option.bind_some, decide_eq_true_eq]
  by_cases h : 0 ≤ j ∧ j ≤ n
  · simp only [if_pos h]
    have e := choose_l0 n.toNat (by omega) j.toNat (by omega) j.toNat 0 (by omega)
    rw [C_zero] at e
    have hc : Cz n j = (C n.toNat j.toNat : Int) := by unfold Cz; rw [if_pos h]
    rw [hc]
    simpa [show max n 0 = n from by omega, show max j 0 = j from by omega] using e
  · simp only [if_neg h]
    have hc : Cz n j = 0 := by unfold Cz; rw [if_neg h]
    rw [hc]; exact Ev.now _

theorem l1Least_eq (a b : Int) : spec_l1Least.f a b = some (min a b) := by
  unfold spec_l1Least.f
  by_cases h : a < b
  · rw [if_pos h]; congr 1; omega
  · rw [if_neg h]; congr 1; omega
def PRow (J : Nat) (l : List Int) (i j : Nat) : Prop :=
  l.length = J + 1 ∧ ∀ t : Nat, t ≤ J → rd l (t : Int) = if j < t then (C (i + 1) t : Int) else (C i t : Int)
theorem pa_l1 (n J : Nat) (hn : n ≤ 40) (hJ : J ≤ 40) (i : Nat) (hi : i < n) (j : Nat) : ∀ (l : List Int), j ≤ J → PRow J l i j →
    ∃ l', PRow J l' i 0 ∧ ∀ r, Ev (fun k => spec_paChoose.l0 k (n : Int) (J : Int) l' ((i + 2 : Nat) : Int)) r → Ev (fun k => spec_paChoose.l1 k (n : Int) (J : Int) l ((i + 1 : Nat) : Int) (j : Int)) r := by
  induction j with
  | zero =>
    intro l _ hl
    refine ⟨l, hl, fun r h => ?_⟩
    refine Ev.s ?_
    have e : wrap64 (((i + 1 : Nat) : Int) + 1) = ((i + 2 : Nat) : Int) := by rw [w64 (by omega) (by omega)]; omega
    have hz : ¬ (((0 : Nat) : Int) > 0) := by omega
    simp only [spec_paChoose.l1, if_neg hz, e]
    exact h
  | succ j ih =>
    intro l hj hl
    obtain ⟨hlen, hl⟩ := hl
    have a1 := hl (j + 1) hj
    have a2 := hl j (by omega)
    rw [if_neg (by omega)] at a1 a2
    have b1 := C_le40 i (j + 1) (by omega)
    have b2 := C_le40 i j (by omega)
    have e1 : wrap64 (((j + 1 : Nat) : Int) - 1) = (j : Int) := by rw [w64 (by omega) (by omega)]; omega
    have e2 : wrap64 ((C i (j + 1) : Int) + (C i j : Int)) = (C (i + 1) (j + 1) : Int) := by rw [w64 (by omega) (by omega), C_ss]; omega
    obtain ⟨l', h', hr⟩ := ih (l.set ((j + 1 : Nat) : Int).toNat (C (i + 1) (j + 1) : Int)) (by omega) (by
      refine ⟨by simpa using hlen, fun t ht => ?_⟩
      rw [rd_set _ _ _ _ (by omega) (by omega) (by omega)]
      by_cases e : ((j + 1 : Nat) : Int) = (t : Int)
      · have : t = j + 1 := by omega
        subst this
        rw [if_pos rfl, if_pos (by omega)]
      · rw [if_neg e, hl t ht]
        by_cases c : j < t
        · rw [if_pos c, if_pos (by omega)]
        · rw [if_neg c, if_neg (by omega)])
    refine ⟨l', h', fun r h => ?_⟩
    refine Ev.s ?_
    have c1 : ((j + 1 : Nat) : Int) > 0 := by omega
    have c2 : (0 : Int) ≤ ((j + 1 : Nat) : Int) := by omega
    have c3 : ((j + 1 : Nat) : Int) < (l.length : Int) := by omega
    have c4 : (0 : Int) ≤ (j : Int) := by omega
    have c5 : (j : Int) < (l.length : Int) := by omega
    simp only [spec_paChoose.l1, e1, a1, a2, e2, if_pos c1, if_pos c2, if_pos c3, if_pos c4, if_pos c5]
    exact hr r h
theorem pa_l0 (n J : Nat) (hn : n ≤ 40) (hJ : J ≤ 40) (d : Nat) : ∀ (i : Nat) (l : List Int), i + d = n → PRow J l i J →
    Ev (fun k => spec_paChoose.l0 k (n : Int) (J : Int) l ((i + 1 : Nat) : Int)) (C n J : Int) := by
  induction d with
  | zero =>
    intro i l hi hl
    obtain rfl : i = n := by omega
    obtain ⟨hlen, hl⟩ := hl
    have a := hl J (Nat.le_refl _)
    rw [if_neg (by omega)] at a
    refine Ev.s ?_
    have c1 : ¬ (((i + 1 : Nat) : Int) ≤ (i : Int)) := by omega
    have c2 : (0 : Int) ≤ (J : Int) := by omega
    have c3 : (J : Int) < (l.length : Int) := by omega
    simp only [spec_paChoose.l0, if_neg c1, if_pos c2, if_pos c3, a]
    exact Ev.now _
  | succ d ih =>
    intro i l hi hl
    have hmin : min (((i + 1 : Nat) : Int)) (J : Int) = ((min (i + 1) J : Nat) : Int) := by omega
    have hl2 : PRow J l i (min (i + 1) J) := by
      refine ⟨hl.1, fun t ht => ?_⟩
      have := hl.2 t ht
      rw [if_neg (by omega)] at this
      by_cases c : min (i + 1) J < t
      · rw [if_pos c, this, C_lt i t (by omega), C_lt (i + 1) t (by omega)]
      · rw [if_neg c, this]
    obtain ⟨l', h', hr⟩ := pa_l1 n J hn hJ i (by omega) (min (i + 1) J) l (by omega) hl2
    refine Ev.s ?_
    have c1 : (((i + 1 : Nat) : Int) ≤ (n : Int)) := by omega
    simp only [spec_paChoose.l0, if_pos c1, l1Least_eq, Option.bind_some, hmin]
    refine hr _ (ih (i + 1) l' (by omega) ⟨h'.1, fun t ht => ?_⟩)
    have := h'.2 t ht
    rw [if_neg (by omega), this]
    by_cases c : 0 < t
    · rw [if_pos c]
    · rw [if_neg c]; obtain rfl : t = 0 := by omega
      rw [C_zero, C_zero]
theorem paChoose_ev (n j : Int) (hn : n ≤ 40) : Ev (fun k => spec_paChoose.f k n j) (Cz n j) := by
  unfold spec_paChoose.f
  by_cases h0 : j < 0
  · simp only [if_pos h0]
    refine Ev.s ?_
    simp only [spec_paChoose.j0, if_true]
    have : Cz n j = 0 := by unfold Cz; rw [if_neg (by omega)]
    rw [this]; exact Ev.now _
  · simp only [if_neg h0]
    refine Ev.s ?_
    by_cases h1 : j > n
    · simp only [spec_paChoose.j0, decide_eq_true h1, if_true]
      have : Cz n j = 0 := by unfold Cz; rw [if_neg (by omega)]
      rw [this]; exact Ev.now _
    · have e1 : wrap64 (j + 1) = j + 1 := by rw [w64 (by omega) (by omega)]
      obtain ⟨J, rfl⟩ : ∃ J : Nat, j = (J : Int) := ⟨j.toNat, by omega⟩
      obtain ⟨N, rfl⟩ : ∃ N : Nat, n = (N : Int) := ⟨n.toNat, by omega⟩
      have e2 : ((J : Int) + 1).toNat = J + 1 := by omega
      have c1 : (0 : Int) ≤ (J : Int) + 1 := by omega
      have c2 : J + 1 ≤ 35184372088832 := by omega
      have c3 : (0 : Int) < ((List.replicate (J + 1) (0 : Int)).length : Int) := by rw [List.length_replicate]; omega
      have hb : decide ((J : Int) > (N : Int)) = false := decide_eq_false h1
      simp only [spec_paChoose.j0, hb, e1, e2, if_pos c1, if_pos c2, Option.bind_some, if_pos c3, Bool.false_eq_true, if_false]
      rw [Cz_nat]
      refine pa_l0 N J (by omega) (by omega) N 0 _ (by omega) ⟨by simp, fun t ht => ?_⟩
      have h0 : ¬ (J < t) := by omega
      have hr : ∀ u : Nat, rd (List.replicate (J + 1) (0 : Int)) (u : Int) = 0 := by
        intro u
        unfold rd
        rw [List.getD_eq_getElem?_getD, List.getElem?_replicate]
        split <;> rfl
      rw [rd_set _ _ _ _ (by omega) (by omega) c3]
      simp only [if_neg h0]
      by_cases e : (0 : Int) = (t : Int)
      · obtain rfl : t = 0 := by omega
        simp [C_zero]
      · obtain ⟨s, rfl⟩ : ∃ s, t = s + 1 := ⟨t - 1, by omega⟩
        simp only [if_neg e, C_zs]
        exact hr _

theorem mul_big (x y : Int) (h0 : 0 ≤ x) (h1 : x ≤ 300) (h2 : 0 ≤ y) (h3 : y ≤ 1099511627776) : 0 ≤ x * y ∧ x * y ≤ 300 * 1099511627776 :=
  ⟨Int.mul_nonneg h0 h2, Int.mul_le_mul h1 h3 h2 (by omega)⟩

/-- How many paths of n steps lead to height h. -/
def To (n h : Int) : Int := if (n + h) % 2 = 0 then Cz n ((n + h) / 2) else 0
theorem tmod2 (x : Int) : Int.tmod x 2 = 0 ↔ x % 2 = 0 := by
  rw [← Int.dvd_iff_tmod_eq_zero, ← Int.dvd_iff_emod_eq_zero]
theorem tdiv2 (x : Int) (h : x % 2 = 0) : Int.tdiv x 2 = x / 2 := by
  obtain ⟨q, rfl⟩ : ∃ q, x = 2 * q := ⟨x / 2, by omega⟩
  rw [Int.mul_tdiv_cancel_left _ (by omega)]; omega
theorem To_le (n h : Int) (hn : n ≤ 40) : 0 ≤ To n h ∧ To n h ≤ 1099511627776 := by
  unfold To
  split
  · exact Cz_le _ _ hn
  · omega
theorem To_ends (a b : Int) : To (a + b) (a - b) = Cz (a + b) a := by
  unfold To
  rw [if_pos (by omega), show (a + b + (a - b)) / 2 = a from by omega]
theorem To_far (n h : Int) (hh : n < h ∨ n < -h) : To n h = 0 := by
  unfold To
  split
  · unfold Cz; rw [if_neg (by omega)]
  · rfl

theorem leading_ev (n h : Int) (hn : -1000 ≤ n ∧ n ≤ 40) (hh : -1000 ≤ h ∧ h ≤ 1000) : Ev (fun k => impl_leading.f k n h) (To n h) := by
  unfold impl_leading.f To
  have e1 : wrap64 (n + h) = n + h := w64 (by omega) (by omega)
  simp only [e1, tmod2]
  by_cases h2 : (n + h) % 2 = 0
  · simp only [if_pos h2, tdiv2 _ h2]
    rw [w64 (n := (n + h) / 2) (by omega) (by omega)]
    refine Ev.bs (choose_ev _ _ (by omega)) (Ev.now _)
  · simp only [if_neg h2]; exact Ev.now _

theorem l1Most_eq (a b : Int) : spec_l1Most.f a b = some (max a b) := by
  unfold spec_l1Most.f
  by_cases h : a > b
  · rw [if_pos h]; congr 1; omega
  · rw [if_neg h]; congr 1; omega
theorem l1Abs_eq (a : Int) (h : -1000 ≤ a ∧ a ≤ 1000) : spec_l1Abs.f a = some (max a (-a)) := by
  unfold spec_l1Abs.f
  rw [w64 (by omega) (by omega), l1Most_eq]; rfl
theorem miTo_ev (n h : Int) (hn : -1000 ≤ n ∧ n ≤ 40) (hh : -1000 ≤ h ∧ h ≤ 1000) : Ev (fun k => spec_miTo.f k n h) (To n h) := by
  unfold spec_miTo.f
  have e1 : wrap64 (n + h) = n + h := w64 (by omega) (by omega)
  simp only [e1, tmod2, l1Abs_eq h hh, Option.bind_some]
  by_cases h2 : (n + h) % 2 = 0
  · simp only [if_pos h2, tdiv2 _ h2]
    rw [w64 (n := (n + h) / 2) (by omega) (by omega)]
    by_cases h3 : max h (-h) > n
    · simp only [if_pos h3]; rw [To_far n h (by omega)]; exact Ev.now _
    · simp only [if_neg h3]; unfold To; rw [if_pos h2]
      refine Ev.bs (paChoose_ev _ _ (by omega)) (Ev.now _)
  · simp only [if_neg h2]; unfold To; rw [if_neg h2]; exact Ev.now _

theorem mx_eq (a b : Int) : mx a b = max a b := by unfold mx; split <;> omega
theorem isHeight_eq (a : Int) : impl_isHeight.f a = some (decide (-40 ≤ a ∧ a ≤ 40)) := by
  unfold impl_isHeight.f; rw [in_eq]; rfl
theorem miHeight_eq (a : Int) : spec_miHeight.f a = some (decide (-40 ≤ a ∧ a ≤ 40)) := by
  unfold spec_miHeight.f; rw [l1In_eq]; rfl
theorem FnExactCountFirstPassage : laws_FnExactCountFirstPassage.Pure := by
  intro n h _ _
  refine Ev.rounds ?_
  unfold laws_FnExactCountFirstPassage.f spec_CountFirstPassage.f impl_CountFirstPassage.f
  simp only [in_eq, l1In_eq, isHeight_eq, miHeight_eq, Option.bind_some, decide_eq_true_eq]
  have done : ∀ (b : Bool) (c : Int), Ev (fun k => (spec_CountFirstPassage.j0 k n h true).bind fun bt124 => if (0 : Int) = bt124.1 then (if (false != bt124.2) = true then some false else some true) else some false) true := by
    intro b c
    refine Ev.bs (a := (0, false)) (Ev.s ?_) ?_
    · simp only [spec_CountFirstPassage.j0, if_true]; exact Ev.now _
    · exact Ev.now _
  by_cases h1 : 1 ≤ n ∧ n ≤ 40
  · by_cases h2 : -40 ≤ h ∧ h ≤ 40
    · by_cases h3 : h = 0
      · subst h3
        simp only [if_pos h1, if_pos h2, if_true, beq_self_eq_true, Option.bind_some]
        exact done true 0
      · have e : (h == 0) = false := beq_eq_false_iff_ne.2 h3
        simp only [if_pos h1, if_pos h2, if_neg h3, e, Option.bind_assoc]
        have hz : ¬ (n = 0) := by omega
        have en : wrap64 (-h) = -h := w64 (by omega) (by omega)
        have hT := To_le n h (by omega)
        have hb := mul_big (max h (-h)) (To n h) (by omega) (by omega) hT.1 hT.2
        refine Ev.bs (a := (wrap64 (Int.tdiv (max h (-h) * To n h) n), true)) (Ev.s ?_) ?_
        · simp only [spec_CountFirstPassage.j0, Bool.false_eq_true, if_false, l1Abs_eq h (by omega), Option.bind_some, if_neg hz]
          refine Ev.bs (miTo_ev n h (by omega) (by omega)) ?_
          rw [Int.mul_comm (To n h), w64 (n := max h (-h) * To n h) (by omega) (by omega)]
          exact Ev.now _
        · refine Ev.bs (leading_ev n h (by omega) (by omega)) ?_
          simp only [if_neg hz, en, mx_eq, Option.bind_some]
          rw [w64 (n := max h (-h) * To n h) (by omega) (by omega)]
          exact Ev.c (by simp)
    · simp only [if_pos h1, if_neg h2, Option.bind_some]
      exact done true 0
  · simp only [if_neg h1, Option.bind_some]
    exact done true 0

end Go.Proofs.Ythhnpklgodaipaa.Pure
