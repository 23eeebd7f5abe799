/- The plain law of the statement FnExactCountByHighest: what the program's function computes is what the reference's computes, for all arguments; no condition. -/
import Derived.Test.YtblofikjcmjaeaaPFnExactCountByHighestx3
namespace Go.Proofs.Ytblofikjcmjaeaa.Pure
open Go.RowKit Go.Proofs.Ytblofikjcmjaeaa.PFnExactCountByHighest Go.Proofs.YtblofikjcmjaeaaW.PrintWords Go.Proofs.YtblofikjcmjaeaaW.PrintLast Go.Proofs.YtblofikjcmjaeaaW.PrintMore

def C : Nat → Nat → Nat
  | _, 0 => 1
  | 0, _ + 1 => 0
  | n + 1, k + 1 => C n k + C n (k + 1)
theorem C_zero (n : Nat) : C n 0 = 1 := by cases n <;> rfl
theorem C_zs (k : Nat) : C 0 (k + 1) = 0 := rfl
theorem C_ss (n k : Nat) : C (n + 1) (k + 1) = C n k + C n (k + 1) := rfl
theorem C_lt : ∀ (n k : Nat), n < k → C n k = 0
  | 0, k + 1, _ => rfl
  | n + 1, k + 1, h => by rw [C_ss, C_lt n k (by omega), C_lt n (k + 1) (by omega)]
theorem C_self : ∀ n : Nat, C n n = 1
  | 0 => rfl
  | n + 1 => by rw [C_ss, C_self n, C_lt n (n + 1) (by omega)]
theorem C_pos : ∀ (n k : Nat), k ≤ n → 1 ≤ C n k
  | n, 0, _ => by rw [C_zero]; omega
  | n + 1, k + 1, h => by rw [C_ss]; have := C_pos n k (by omega); omega
theorem C_absorb : ∀ (n k : Nat), C (n + 1) (k + 1) * (k + 1) = (n + 1) * C n k
  | 0, 0 => rfl
  | 0, k + 1 => by rw [C_lt 1 (k + 2) (by omega), C_lt 0 (k + 1) (by omega)]; omega
  | n + 1, 0 => by
    have h := C_absorb n 0
    rw [C_ss, C_zero] ; rw [C_zero] at h; omega
  | n + 1, k + 1 => by
    have h1 := C_absorb n k
    have h2 := C_absorb n (k + 1)
    rw [C_ss (n + 1) (k + 1)]
    rw [C_ss n k] at h1 ⊢
    grind
theorem C_step (n k : Nat) (h : k ≤ n) : C n (k + 1) * (k + 1) = C n k * (n - k) := by
  have h1 := C_absorb n k
  rw [C_ss] at h1
  obtain ⟨d, rfl⟩ : ∃ d, n = k + d := ⟨n - k, by omega⟩
  rw [Nat.add_sub_cancel_left]
  grind
theorem C_symm : ∀ (n k : Nat), k ≤ n → C n (n - k) = C n k
  | 0, 0, _ => rfl
  | n + 1, 0, _ => by rw [Nat.sub_zero, C_self, C_zero]
  | n + 1, k + 1, h => by
    by_cases e : k = n
    · subst e; rw [Nat.sub_self, C_zero, C_self]
    · have h1 := C_symm n k (by omega)
      have h2 := C_symm n (k + 1) (by omega)
      have e1 : n + 1 - (k + 1) = (n - (k + 1)) + 1 := by omega
      rw [e1, C_ss, C_ss, h2]
      have e2 : n - (k + 1) + 1 = n - k := by omega
      rw [e2, h1]; omega
theorem C_le : ∀ (n k : Nat), C n k ≤ 2 ^ n
  | n, 0 => by rw [C_zero]; exact Nat.one_le_two_pow
  | 0, k + 1 => by rw [C_zs]; omega
  | n + 1, k + 1 => by
    rw [C_ss, Nat.pow_succ]
    cases n with
    | zero => cases k with
      | zero => decide
      | succ k => simp [C]
    | succ m =>
      have h1 := C_le (m+1) k
      have h2 := C_le (m+1) (k + 1)
      omega
theorem C_le40 (n k : Nat) (h : n ≤ 40) : C n k ≤ 1099511627776 := by
  have h1 := C_le n k
  have h2 : 2 ^ n ≤ 2 ^ 40 := Nat.pow_le_pow_right (by omega) h
  omega

theorem Ev.s {α : Type} {g : Nat → Option α} {r : α} (h : Ev (fun k => g (k + 1)) r) : Ev g r := by
  obtain ⟨K, hK⟩ := h
  refine ⟨K + 1, fun k hk => ?_⟩
  obtain ⟨m, rfl⟩ : ∃ m, k = m + 1 := ⟨k - 1, by omega⟩
  exact hK m (by omega)
theorem Ev.c {α : Type} {o : Option α} {r : α} (h : o = some r) : Ev (fun _ => o) r := ⟨0, fun _ _ => h⟩
theorem Ev.u {α : Type} {g : Nat → Option α} {r r' : α} (h : Ev g r) (h' : Ev g r') : r = r' := by
  obtain ⟨K, hK⟩ := h
  obtain ⟨K', hK'⟩ := h'
  have a := hK (max K K') (by omega)
  have b := hK' (max K K') (by omega)
  rw [a] at b
  exact Option.some.inj b
theorem Ev.e {α : Type} {g : Nat → Option α} {r r' : α} (h : Ev g r) (e : r = r') : Ev g r' := e ▸ h
theorem Ev.bs {α β : Type} {g : Nat → Option α} {f : Nat → α → Option β} {a : α} {r : β} (h : Ev g a) (k : Ev (fun n => f n a) r) : Ev (fun n => Option.bind (g n) (f n)) r := Ev.bind h k
theorem w64 {n : Int} (h : -9223372036854775808 ≤ n) (h' : n ≤ 9223372036854775807) : wrap64 n = n := by unfold wrap64; omega
theorem rd_set (l : List Int) (i j : Int) (v : Int) (hi : 0 ≤ i) (hj : 0 ≤ j) (hl : i < (l.length : Int)) : rd (l.set i.toNat v) j = if i = j then v else rd l j := by
  unfold rd
  rw [List.getD_eq_getElem?_getD, List.getD_eq_getElem?_getD, List.getElem?_set]
  by_cases e : i = j
  · subst e; rw [if_pos rfl, if_pos rfl, if_pos (by omega)]; rfl
  · rw [if_neg (by omega), if_neg e]

theorem in_eq (a b c : Int) : impl_in.f a b c = some (decide (b ≤ a ∧ a ≤ c)) := by
  unfold impl_in.f
  by_cases h : b ≤ a
  · rw [if_pos h]; simp [h]
  · rw [if_neg h]; simp [h]
theorem l1In_eq (a b c : Int) : spec_l1In.f a b c = some (decide (b ≤ a ∧ a ≤ c)) := by
  unfold spec_l1In.f
  by_cases h : a ≥ b
  · rw [if_pos h]; simp [h]
  · rw [if_neg h]; simp [h]
theorem choose_l0 (n : Nat) (hn : n ≤ 40) (j : Nat) (hj : j ≤ n) (d : Nat) : ∀ i : Nat, i + d = j →
    Ev (fun k => impl_choose.l0 k (n : Int) (C n i : Int) (j : Int) (i : Int)) (C n j : Int) := by
  induction d with
  | zero =>
    intro i hi
    obtain rfl : i = j := by omega
    refine Ev.s ?_
    simp (disch := omega) only [impl_choose.l0, if_neg]
    exact Ev.now _
  | succ d ih =>
    intro i hi
    refine Ev.s ?_
    have hb := C_le40 n i hn
    have hs := C_step n i (by omega)
    have hm : C n i * (n - i) ≤ 1099511627776 * 40 := Nat.mul_le_mul hb (by omega)
    have e1 : wrap64 ((n : Int) - (i : Int)) = ((n - i : Nat) : Int) := by rw [w64 (by omega) (by omega)]; omega
    have e2 : wrap64 ((i : Int) + 1) = ((i + 1 : Nat) : Int) := by rw [w64 (by omega) (by omega)]; omega
    have e3 : wrap64 ((C n i : Int) * ((n - i : Nat) : Int)) = ((C n (i + 1) * (i + 1) : Nat) : Int) := by
      rw [hs, ← Int.natCast_mul, w64 (by omega) (by omega)]
    have e4 : Int.tdiv ((C n (i + 1) * (i + 1) : Nat) : Int) ((i + 1 : Nat) : Int) = (C n (i + 1) : Int) := by
      rw [Int.natCast_mul]; exact Int.mul_tdiv_cancel _ (by omega)
    have e5 : wrap64 (C n (i + 1) : Int) = (C n (i + 1) : Int) := by
      have := C_le40 n (i + 1) hn
      rw [w64 (by omega) (by omega)]
    have hz : ¬ (((i + 1 : Nat) : Int) = 0) := by omega
    have hlt : (i : Int) < (j : Int) := by omega
    simp only [impl_choose.l0, e1, e2, e3, e4, e5, if_neg hz, if_pos hlt]
    exact ih (i + 1) (by omega)
/-- What `choose` comes to. -/
def Cz (n j : Int) : Int := if 0 ≤ j ∧ j ≤ n then (C n.toNat j.toNat : Int) else 0
theorem Cz_nat (n j : Nat) : Cz (n : Int) (j : Int) = (C n j : Int) := by
  unfold Cz
  by_cases h : j ≤ n
  · rw [if_pos (by omega)]; simp
  · rw [if_neg (by omega), C_lt n j (by omega)]; rfl
theorem Cz_le (n j : Int) (hn : n ≤ 40) : 0 ≤ Cz n j ∧ Cz n j ≤ 1099511627776 := by
  unfold Cz
  split
  · have := C_le40 n.toNat j.toNat (by omega); omega
  · omega
theorem Cz_symm (a b : Int) (ha : 0 ≤ a) (hb : 0 ≤ b) : Cz (a + b) b = Cz (a + b) a := by
  unfold Cz
  rw [if_pos (by omega), if_pos (by omega)]
  have h := C_symm (a + b).toNat a.toNat (by omega)
  rw [show (a + b).toNat - a.toNat = b.toNat from by omega] at h
  rw [h]
theorem choose_ev (n j : Int) (hn : n ≤ 40) : Ev (fun k => impl_choose.f k n j) (Cz n j) := by
  unfold impl_choose.f
  simp only [in_eq, Option.bind_some, decide_eq_true_eq]
  by_cases h : 0 ≤ j ∧ j ≤ n
  · simp only [if_pos h]
    have e := choose_l0 n.toNat (by omega) j.toNat (by omega) j.toNat 0 (by omega)
    rw [C_zero] at e
    have hc : Cz n j = (C n.toNat j.toNat : Int) := by unfold Cz; rw [if_pos h]
    rw [hc]
    simpa [show max n 0 = n from by omega, show max j 0 = j from by omega] using e
  · simp only [if_neg h]
    have hc : Cz n j = 0 := by unfold Cz; rw [if_neg h]
    rw [hc]; exact Ev.now _

theorem l1Least_eq (a b : Int) : spec_l1Least.f a b = some (min a b) := by
  unfold spec_l1Least.f
  by_cases h : a < b
  · rw [if_pos h]; congr 1; omega
  · rw [if_neg h]; congr 1; omega
def PRow (J : Nat) (l : List Int) (i j : Nat) : Prop :=
  l.length = J + 1 ∧ ∀ t : Nat, t ≤ J → rd l (t : Int) = if j < t then (C (i + 1) t : Int) else (C i t : Int)
theorem pa_l1 (n J : Nat) (hn : n ≤ 40) (hJ : J ≤ 40) (i : Nat) (hi : i < n) (j : Nat) : ∀ (l : List Int), j ≤ J → PRow J l i j →
    ∃ l', PRow J l' i 0 ∧ ∀ r, Ev (fun k => spec_paChoose.l0 k (n : Int) (J : Int) l' ((i + 2 : Nat) : Int)) r → Ev (fun k => spec_paChoose.l1 k (n : Int) (J : Int) l ((i + 1 : Nat) : Int) (j : Int)) r := by
  induction j with
  | zero =>
    intro l _ hl
    refine ⟨l, hl, fun r h => ?_⟩
    refine Ev.s ?_
    have e : wrap64 (((i + 1 : Nat) : Int) + 1) = ((i + 2 : Nat) : Int) := by rw [w64 (by omega) (by omega)]; omega
    have hz : ¬ (((0 : Nat) : Int) > 0) := by omega
    simp only [spec_paChoose.l1, if_neg hz, e]
    exact h
  | succ j ih =>
    intro l hj hl
    obtain ⟨hlen, hl⟩ := hl
    have a1 := hl (j + 1) hj
    have a2 := hl j (by omega)
    rw [if_neg (by omega)] at a1 a2
    have b1 := C_le40 i (j + 1) (by omega)
    have b2 := C_le40 i j (by omega)
    have e1 : wrap64 (((j + 1 : Nat) : Int) - 1) = (j : Int) := by rw [w64 (by omega) (by omega)]; omega
    have e2 : wrap64 ((C i (j + 1) : Int) + (C i j : Int)) = (C (i + 1) (j + 1) : Int) := by rw [w64 (by omega) (by omega), C_ss]; omega
    obtain ⟨l', h', hr⟩ := ih (l.set ((j + 1 : Nat) : Int).toNat (C (i + 1) (j + 1) : Int)) (by omega) (by
      refine ⟨by simpa using hlen, fun t ht => ?_⟩
      rw [rd_set _ _ _ _ (by omega) (by omega) (by omega)]
      by_cases e : ((j + 1 : Nat) : Int) = (t : Int)
      · have : t = j + 1 := by omega
        subst this
        rw [if_pos rfl, if_pos (by omega)]
      · rw [if_neg e, hl t ht]
        by_cases c : j < t
        · rw [if_pos c, if_pos (by omega)]
        · rw [if_neg c, if_neg (by omega)])
    refine ⟨l', h', fun r h => ?_⟩
    refine Ev.s ?_
    have c1 : ((j + 1 : Nat) : Int) > 0 := by omega
    have c2 : (0 : Int) ≤ ((j + 1 : Nat) : Int) := by omega
    have c3 : ((j + 1 : Nat) : Int) < (l.length : Int) := by omega
    have c4 : (0 : Int) ≤ (j : Int) := by omega
    have c5 : (j : Int) < (l.length : Int) := by omega
    simp only [spec_paChoose.l1, e1, a1, a2, e2, if_pos c1, if_pos c2, if_pos c3, if_pos c4, if_pos c5]
    exact hr r h
theorem pa_l0 (n J : Nat) (hn : n ≤ 40) (hJ : J ≤ 40) (d : Nat) : ∀ (i : Nat) (l : List Int), i + d = n → PRow J l i J →
    Ev (fun k => spec_paChoose.l0 k (n : Int) (J : Int) l ((i + 1 : Nat) : Int)) (C n J : Int) := by
  induction d with
  | zero =>
    intro i l hi hl
    obtain rfl : i = n := by omega
    obtain ⟨hlen, hl⟩ := hl
    have a := hl J (Nat.le_refl _)
    rw [if_neg (by omega)] at a
    refine Ev.s ?_
    have c1 : ¬ (((i + 1 : Nat) : Int) ≤ (i : Int)) := by omega
    have c2 : (0 : Int) ≤ (J : Int) := by omega
    have c3 : (J : Int) < (l.length : Int) := by omega
    simp only [spec_paChoose.l0, if_neg c1, if_pos c2, if_pos c3, a]
    exact Ev.now _
  | succ d ih =>
    intro i l hi hl
    have hmin : min (((i + 1 : Nat) : Int)) (J : Int) = ((min (i + 1) J : Nat) : Int) := by omega
    have hl2 : PRow J l i (min (i + 1) J) := by
      refine ⟨hl.1, fun t ht => ?_⟩
      have := hl.2 t ht
      rw [if_neg (by omega)] at this
      by_cases c : min (i + 1) J < t
      · rw [if_pos c, this, C_lt i t (by omega), C_lt (i + 1) t (by omega)]
      · rw [if_neg c, this]
    obtain ⟨l', h', hr⟩ := pa_l1 n J hn hJ i (by omega) (min (i + 1) J) l (by omega) hl2
    refine Ev.s ?_
    have c1 : (((i + 1 : Nat) : Int) ≤ (n : Int)) := by omega
    simp only [spec_paChoose.l0, if_pos c1, l1Least_eq, Option.bind_some, hmin]
    refine hr _ (ih (i + 1) l' (by omega) ⟨h'.1, fun t ht => ?_⟩)
    have := h'.2 t ht
    rw [if_neg (by omega), this]
    by_cases c : 0 < t
    · rw [if_pos c]
    · rw [if_neg c]; obtain rfl : t = 0 := by omega
      rw [C_zero, C_zero]
theorem paChoose_ev (n j : Int) (hn : n ≤ 40) : Ev (fun k => spec_paChoose.f k n j) (Cz n j) := by
  unfold spec_paChoose.f
  by_cases h0 : j < 0
  · simp only [if_pos h0]
    refine Ev.s ?_
    simp only [spec_paChoose.j0, if_true]
    have : Cz n j = 0 := by unfold Cz; rw [if_neg (by omega)]
    rw [this]; exact Ev.now _
  · simp only [if_neg h0]
    refine Ev.s ?_
    by_cases h1 : j > n
    · simp only [spec_paChoose.j0, decide_eq_true h1, if_true]
      have : Cz n j = 0 := by unfold Cz; rw [if_neg (by omega)]
      rw [this]; exact Ev.now _
    · have e1 : wrap64 (j + 1) = j + 1 := by rw [w64 (by omega) (by omega)]
      obtain ⟨J, rfl⟩ : ∃ J : Nat, j = (J : Int) := ⟨j.toNat, by omega⟩
      obtain ⟨N, rfl⟩ : ∃ N : Nat, n = (N : Int) := ⟨n.toNat, by omega⟩
      have e2 : ((J : Int) + 1).toNat = J + 1 := by omega
      have c1 : (0 : Int) ≤ (J : Int) + 1 := by omega
      have c2 : J + 1 ≤ 35184372088832 := by omega
      have c3 : (0 : Int) < ((List.replicate (J + 1) (0 : Int)).length : Int) := by rw [List.length_replicate]; omega
      have hb : decide ((J : Int) > (N : Int)) = false := decide_eq_false h1
      simp only [spec_paChoose.j0, hb, e1, e2, if_pos c1, if_pos c2, Option.bind_some, if_pos c3, Bool.false_eq_true, if_false]
      rw [Cz_nat]
      refine pa_l0 N J (by omega) (by omega) N 0 _ (by omega) ⟨by simp, fun t ht => ?_⟩
      have h0 : ¬ (J < t) := by omega
      have hr : ∀ u : Nat, rd (List.replicate (J + 1) (0 : Int)) (u : Int) = 0 := by
        intro u
        unfold rd
        rw [List.getD_eq_getElem?_getD, List.getElem?_replicate]
        split <;> rfl
      rw [rd_set _ _ _ _ (by omega) (by omega) c3]
      simp only [if_neg h0]
      by_cases e : (0 : Int) = (t : Int)
      · obtain rfl : t = 0 := by omega
        simp [C_zero]
      · obtain ⟨s, rfl⟩ : ∃ s, t = s + 1 := ⟨t - 1, by omega⟩
        simp only [if_neg e, C_zs]
        exact hr _

/-- How many paths of n steps lead to height h. -/
def To (n h : Int) : Int := if (n + h) % 2 = 0 then Cz n ((n + h) / 2) else 0
theorem tmod2 (x : Int) : Int.tmod x 2 = 0 ↔ x % 2 = 0 := by
  rw [← Int.dvd_iff_tmod_eq_zero, ← Int.dvd_iff_emod_eq_zero]
theorem tdiv2 (x : Int) (h : x % 2 = 0) : Int.tdiv x 2 = x / 2 := by
  obtain ⟨q, rfl⟩ : ∃ q, x = 2 * q := ⟨x / 2, by omega⟩
  rw [Int.mul_tdiv_cancel_left _ (by omega)]; omega
theorem To_le (n h : Int) (hn : n ≤ 40) : 0 ≤ To n h ∧ To n h ≤ 1099511627776 := by
  unfold To
  split
  · exact Cz_le _ _ hn
  · omega
theorem To_ends (a b : Int) : To (a + b) (a - b) = Cz (a + b) a := by
  unfold To
  rw [if_pos (by omega), show (a + b + (a - b)) / 2 = a from by omega]
theorem To_far (n h : Int) (hh : n < h ∨ n < -h) : To n h = 0 := by
  unfold To
  split
  · unfold Cz; rw [if_neg (by omega)]
  · rfl

theorem leading_ev (n h : Int) (hn : -1000 ≤ n ∧ n ≤ 40) (hh : -1000 ≤ h ∧ h ≤ 1000) : Ev (fun k => impl_leading.f k n h) (To n h) := by
  unfold impl_leading.f To
  have e1 : wrap64 (n + h) = n + h := w64 (by omega) (by omega)
  simp only [e1, tmod2]
  by_cases h2 : (n + h) % 2 = 0
  · simp only [if_pos h2, tdiv2 _ h2]
    rw [w64 (n := (n + h) / 2) (by omega) (by omega)]
    refine Ev.bs (choose_ev _ _ (by omega)) (Ev.now _)
  · simp only [if_neg h2]; exact Ev.now _

theorem l1Most_eq (a b : Int) : spec_l1Most.f a b = some (max a b) := by
  unfold spec_l1Most.f
  by_cases h : a > b
  · rw [if_pos h]; congr 1; omega
  · rw [if_neg h]; congr 1; omega
theorem l1Abs_eq (a : Int) (h : -1000 ≤ a ∧ a ≤ 1000) : spec_l1Abs.f a = some (max a (-a)) := by
  unfold spec_l1Abs.f
  rw [w64 (by omega) (by omega), l1Most_eq]; rfl
theorem miTo_ev (n h : Int) (hn : -1000 ≤ n ∧ n ≤ 40) (hh : -1000 ≤ h ∧ h ≤ 1000) : Ev (fun k => spec_miTo.f k n h) (To n h) := by
  unfold spec_miTo.f
  have e1 : wrap64 (n + h) = n + h := w64 (by omega) (by omega)
  simp only [e1, tmod2, l1Abs_eq h hh, Option.bind_some]
  by_cases h2 : (n + h) % 2 = 0
  · simp only [if_pos h2, tdiv2 _ h2]
    rw [w64 (n := (n + h) / 2) (by omega) (by omega)]
    by_cases h3 : max h (-h) > n
    · simp only [if_pos h3]; rw [To_far n h (by omega)]; exact Ev.now _
    · simp only [if_neg h3]; unfold To; rw [if_pos h2]
      refine Ev.bs (paChoose_ev _ _ (by omega)) (Ev.now _)
  · simp only [if_neg h2]; unfold To; rw [if_neg h2]; exact Ev.now _

theorem drop_rd (l : List Int) (i : Nat) (h : i < l.length) : l.drop i = rd l (i : Int) :: l.drop (i + 1) := by
  rw [List.drop_eq_getElem_cons h]
  unfold rd
  rw [Int.toNat_natCast, List.getD_eq_getElem?_getD, List.getElem?_eq_getElem h]
  rfl
theorem rd_get (l : List Int) (i : Nat) (h : i < l.length) : rd l (i : Int) = l[i] := by
  unfold rd
  rw [Int.toNat_natCast, List.getD_eq_getElem?_getD, List.getElem?_eq_getElem h]
  rfl
theorem wsucc (i n : Nat) (h : i < n) (hn : n ≤ 9223372036854775807) : wrap64 ((i : Int) + 1) = ((i + 1 : Nat) : Int) := by
  rw [w64 (by omega) (by omega)]; omega
theorem rd_cons_succ (x : Int) (l : List Int) (i : Nat) : rd (x :: l) ((i + 1 : Nat) : Int) = rd l (i : Int) := by
  unfold rd
  simp only [Int.toNat_natCast, List.getD_cons_succ]
theorem rd_cons_zero (x : Int) (l : List Int) : rd (x :: l) 0 = x := rfl

theorem eqIntS_l0 (l m : List Int) (hl : l.length = m.length) (hn : l.length ≤ 35184372088832) (d : Nat) : ∀ (i : Nat), i + d = l.length →
    Ev (fun k => laws_eqIntS.l0 k l m (i : Int)) (decide (l.drop i = m.drop i)) := by
  induction d with
  | zero =>
    intro i hi
    refine Ev.s ?_
    have c : ¬ ((i : Int) < (l.length : Int)) := by omega
    simp only [laws_eqIntS.l0, if_neg c]
    rw [List.drop_of_length_le (by omega), List.drop_of_length_le (by omega)]
    exact Ev.now _
  | succ d ih =>
    intro i hi
    refine Ev.s ?_
    have c1 : ((i : Int) < (l.length : Int)) := by omega
    have c2 : (0 : Int) ≤ (i : Int) := by omega
    have c3 : ((i : Int) < (m.length : Int)) := by omega
    have e := wsucc i l.length (by omega) (by omega)
    simp only [laws_eqIntS.l0, if_pos c1, if_pos c2, if_pos c3, e]
    rw [drop_rd l i (by omega), drop_rd m i (by omega)]
    by_cases h : rd l (i : Int) = rd m (i : Int)
    · simp only [if_pos h]
      refine Ev.e (ih (i + 1) (by omega)) ?_
      simp [h]
    · simp only [if_neg h]
      have : (decide (rd l (i : Int) :: l.drop (i + 1) = rd m (i : Int) :: m.drop (i + 1))) = false := by
        apply decide_eq_false; intro h'; exact h (List.cons.inj h').1
      rw [this]; exact Ev.now _
theorem eqIntS_ev (l m : List Int) (hn : l.length ≤ 35184372088832) : Ev (fun k => laws_eqIntS.f k l m) (decide (l = m)) := by
  unfold laws_eqIntS.f
  by_cases h : l.length = m.length
  · have c : ((l.length : Int) = (m.length : Int)) := by omega
    simp only [if_pos c]
    exact eqIntS_l0 l m h hn l.length 0 (by omega)
  · have c : ¬ ((l.length : Int) = (m.length : Int)) := by omega
    simp only [if_neg c]
    have : decide (l = m) = false := by apply decide_eq_false; intro e; rw [e] at h; exact h rfl
    rw [this]; exact Ev.now _

/-- k, k + 1, .. -/
def upL : Int → Nat → List Int
  | _, 0 => []
  | k, n + 1 => k :: upL (k + 1) n
theorem upL_len : ∀ (n : Nat) (k : Int), (upL k n).length = n
  | 0, _ => rfl
  | n + 1, k => by simp only [upL, List.length_cons, upL_len n]
theorem upL_snoc : ∀ (n : Nat) (k : Int), upL k (n + 1) = upL k n ++ [k + n]
  | 0, k => by simp [upL]
  | n + 1, k => by
    rw [upL, upL_snoc n (k + 1), upL, List.cons_append, Int.natCast_succ, show k + 1 + (n : Int) = k + ((n : Int) + 1) from by omega]
theorem upL_rd : ∀ (n i : Nat) (k : Int), i < n → rd (upL k n) (i : Int) = k + i
  | n + 1, 0, k, _ => by simp [upL, rd_cons_zero]
  | n + 1, i + 1, k, h => by
    rw [upL, rd_cons_succ, upL_rd n i (k + 1) (by omega), Int.natCast_succ]; omega
theorem markIntS_ev (l : List Int) (hl : l.length ≤ 1000000) : Ev (fun k => laws_markIntS.f k l 1) (1 + (l.length : Int), upL 1 l.length) := by
  have key : ∀ (d i : Nat) (m : List Int), i + d = l.length → m.length = l.length → m.take i = upL 1 i → Ev (fun k => laws_markIntS.l0 k m (1 + (i : Int)) (i : Int)) (1 + (l.length : Int), upL 1 l.length) := by
    intro d
    induction d with
    | zero =>
      intro i m hi hm ht
      refine Ev.s ?_
      have c : ¬ ((i : Int) < (m.length : Int)) := by omega
      simp only [laws_markIntS.l0, if_neg c]
      rw [List.take_of_length_le (by omega)] at ht
      rw [ht, show i = l.length from by omega]
      exact Ev.now _
    | succ d ih =>
      intro i m hi hm ht
      refine Ev.s ?_
      have c1 : ((i : Int) < (m.length : Int)) := by omega
      have c2 : (0 : Int) ≤ (i : Int) := by omega
      have e := wsucc i l.length (by omega) (by omega)
      have e2 : wrap64 (1 + (i : Int) + 1) = 1 + ((i + 1 : Nat) : Int) := by rw [w64 (by omega) (by omega)]; omega
      simp only [laws_markIntS.l0, if_pos c1, if_pos c2, e, e2, Int.toNat_natCast]
      refine ih (i + 1) _ (by omega) (by simpa using hm) ?_
      rw [List.take_succ_eq_append_getElem (by simp; omega), List.take_set_of_le (by omega), ht, upL_snoc]
      simp
  have := key l.length 0 l (by omega) rfl rfl
  exact this
theorem heldIntS_ev (n : Nat) (hn : n ≤ 1000000) : Ev (fun k => laws_heldIntS.f k (upL 1 n) 1) (1 + (n : Int)) := by
  have key : ∀ (d i : Nat), i + d = n → Ev (fun k => laws_heldIntS.l0 k (upL 1 n) (1 + (i : Int)) (i : Int)) (1 + (n : Int)) := by
    intro d
    induction d with
    | zero =>
      intro i hi
      refine Ev.s ?_
      have c : ¬ ((i : Int) < ((upL 1 n).length : Int)) := by rw [upL_len]; omega
      simp only [laws_heldIntS.l0, if_neg c]
      rw [show i = n from by omega]
      exact Ev.now _
    | succ d ih =>
      intro i hi
      refine Ev.s ?_
      have c1 : ((i : Int) < ((upL 1 n).length : Int)) := by rw [upL_len]; omega
      have c2 : (0 : Int) ≤ (i : Int) := by omega
      have c3 := upL_rd n i 1 (by omega)
      have e := wsucc i n (by omega) (by omega)
      have e2 : wrap64 (1 + (i : Int) + 1) = 1 + ((i + 1 : Nat) : Int) := by rw [w64 (by omega) (by omega)]; omega
      simp only [laws_heldIntS.l0, if_pos c1, if_pos c2, c3, if_true, e, e2]
      exact ih (i + 1) (by omega)
  have := key n 0 (by omega)
  exact this

theorem CountByHighest_frame (n : Int) (v : List Int) (b : Bool) (hv : v.length ≤ 1000000) (e1 : Ev (fun k => spec_CountByHighest.f k n) (v, b)) (e2 : Ev (fun k => impl_CountByHighest.f k n) (v, b)) :
    Ev (fun k => (spec_CountByHighest.f k n).bind fun bt1 => ((impl_CountByHighest.f k n).bind fun bt2 => ((laws_eqIntS.f k bt2.1 bt1.1).bind fun t => (if t = true then (laws_FnExactCountByHighest.j0 k n bt1.1 bt1.2 bt2.1 (bt2.2 != bt1.2)) else (laws_FnExactCountByHighest.j0 k n bt1.1 bt1.2 bt2.1 true))))) true := by
  have hh := heldIntS_ev v.length hv
  refine Ev.bs e1 (Ev.bs e2 (Ev.bs (eqIntS_ev v v (by omega)) ?_))
  simp only [decide_true, if_true, bne_self_eq_false]
  refine Ev.s ?_
  simp only [laws_FnExactCountByHighest.j0, Bool.false_eq_true, if_false]
  refine Ev.bs (markIntS_ev v hv) (Ev.bs hh ?_)
  have c1 : ¬ (1 + (v.length : Int) < 0) := by omega
  simp only [if_neg c1, if_true]
  refine Ev.bs e2 (Ev.bs (eqIntS_ev v v (by omega)) ?_)
  simp only [decide_true, if_true, bne_self_eq_false]
  refine Ev.s ?_
  simp only [laws_FnExactCountByHighest.j1, Bool.false_eq_true, if_false]
  refine Ev.bs hh ?_
  simp only [if_neg c1, if_true]
  exact Ev.now _

/-- The numbers by the highest height. -/
def VB (n : Nat) : List Int := (List.range (n + 1)).map (fun i : Nat => To (n : Int) (i : Int) + To (n : Int) ((i : Int) + 1))
theorem VB_len (n : Nat) : (VB n).length = n + 1 := by unfold VB; simp
theorem VB_get (n i : Nat) (h : i < n + 1) : (VB n)[i]'(by rw [VB_len]; exact h) = To (n : Int) (i : Int) + To (n : Int) ((i : Int) + 1) := by
  unfold VB
  simp
theorem specBH_ev (n : Nat) (hn : n ≤ 40) : ∀ (d i : Nat) (m : List Int), i + d = n + 1 → m.length = n + 1 → m.take i = (VB n).take i → Ev (fun k => spec_CountByHighest.l0 k (n : Int) m ((n + 1 : Nat) : Int) (i : Int)) (VB n, true) := by
  intro d
  induction d with
  | zero =>
    intro i m hi hm ht
    refine Ev.s ?_
    have c : ¬ ((i : Int) < ((n + 1 : Nat) : Int)) := by omega
    simp only [spec_CountByHighest.l0, if_neg c]
    rw [List.take_of_length_le (by omega), List.take_of_length_le (by rw [VB_len]; omega)] at ht
    rw [ht]; exact Ev.now _
  | succ d ih =>
    intro i m hi hm ht
    refine Ev.s ?_
    have c1 : ((i : Int) < ((n + 1 : Nat) : Int)) := by omega
    have c2 : (0 : Int) ≤ (i : Int) := by omega
    have c3 : ((i : Int) < (m.length : Int)) := by omega
    have e : wrap64 ((i : Int) + 1) = (i : Int) + 1 := w64 (by omega) (by omega)
    have b1 := To_le (n : Int) (i : Int) (by omega)
    have b2 := To_le (n : Int) ((i : Int) + 1) (by omega)
    have w : wrap64 (To (n : Int) (i : Int) + To (n : Int) ((i : Int) + 1)) = To (n : Int) (i : Int) + To (n : Int) ((i : Int) + 1) := w64 (by omega) (by omega)
    simp only [spec_CountByHighest.l0, if_pos c1, e]
    refine Ev.bs (miTo_ev (n : Int) (i : Int) (by omega) (by omega)) (Ev.bs (miTo_ev (n : Int) ((i : Int) + 1) (by omega) (by omega)) ?_)
    simp only [if_pos c2, if_pos c3, w, Int.toNat_natCast]
    have := ih (i + 1) (m.set i (To (n : Int) (i : Int) + To (n : Int) ((i : Int) + 1))) (by omega) (by simpa using hm) (by
      rw [List.take_succ_eq_append_getElem (by simp; omega), List.take_set_of_le (by omega), ht, List.take_succ_eq_append_getElem (by rw [VB_len]; omega), VB_get n i (by omega)]
      simp)
    rw [Int.natCast_succ i] at this
    exact this
theorem implBH_ev (n : Nat) (hn : n ≤ 40) : ∀ (d i : Nat), i + d = n + 1 → Ev (fun k => impl_CountByHighest.l0 k (n : Int) ((VB n).take i) (i : Int)) (VB n, true) := by
  intro d
  induction d with
  | zero =>
    intro i hi
    refine Ev.s ?_
    have c : ¬ ((i : Int) ≤ (n : Int)) := by omega
    simp only [impl_CountByHighest.l0, if_neg c]
    rw [List.take_of_length_le (by rw [VB_len]; omega)]
    exact Ev.now _
  | succ d ih =>
    intro i hi
    refine Ev.s ?_
    have c1 : ((i : Int) ≤ (n : Int)) := by omega
    have c4 : ((VB n).take i).length < 17592186044416 := by rw [List.length_take, VB_len]; omega
    have e : wrap64 ((i : Int) + 1) = (i : Int) + 1 := w64 (by omega) (by omega)
    have b1 := To_le (n : Int) (i : Int) (by omega)
    have b2 := To_le (n : Int) ((i : Int) + 1) (by omega)
    have w : wrap64 (To (n : Int) (i : Int) + To (n : Int) ((i : Int) + 1)) = To (n : Int) (i : Int) + To (n : Int) ((i : Int) + 1) := w64 (by omega) (by omega)
    simp only [impl_CountByHighest.l0, if_pos c1, e]
    refine Ev.bs (leading_ev (n : Int) (i : Int) (by omega) (by omega)) (Ev.bs (leading_ev (n : Int) ((i : Int) + 1) (by omega) (by omega)) ?_)
    simp only [if_pos c4, w]
    have := ih (i + 1) (by omega)
    rw [List.take_succ_eq_append_getElem (by rw [VB_len]; omega), VB_get n i (by omega), Int.natCast_succ i] at this
    exact this
theorem FnExactCountByHighest : laws_FnExactCountByHighest.Pure := by
  intro n _
  refine Ev.rounds ?_
  unfold laws_FnExactCountByHighest.f
  by_cases h : 0 ≤ n ∧ n ≤ 40
  · obtain ⟨N, rfl⟩ : ∃ N : Nat, n = (N : Int) := ⟨n.toNat, by omega⟩
    refine CountByHighest_frame (N : Int) (VB N) true (by rw [VB_len]; omega) ?_ ?_
    · unfold spec_CountByHighest.f
      have e1 : wrap64 ((N : Int) + 1) = ((N + 1 : Nat) : Int) := by rw [w64 (by omega) (by omega)]; omega
      have c1 : (0 : Int) ≤ ((N + 1 : Nat) : Int) := by omega
      have c2 : N + 1 ≤ 35184372088832 := by omega
      simp only [l1In_eq, Option.bind_some, decide_eq_true h, if_true, e1, if_pos c1, Int.toNat_natCast, if_pos c2, List.length_replicate]
      exact specBH_ev N (by omega) (N + 1) 0 _ (by omega) (by simp) (by simp)
    · unfold impl_CountByHighest.f
      simp only [in_eq, Option.bind_some, decide_eq_true h, if_true]
      have := implBH_ev N (by omega) (N + 1) 0 (by omega)
      exact this
  · refine CountByHighest_frame n [] false (by simp) ?_ ?_
    · unfold spec_CountByHighest.f
      simp only [l1In_eq, Option.bind_some, decide_eq_false h, Bool.false_eq_true, if_false]
      exact Ev.now _
    · unfold impl_CountByHighest.f
      simp only [in_eq, Option.bind_some, decide_eq_false h, Bool.false_eq_true, if_false]
      exact Ev.now _

end Go.Proofs.Ytblofikjcmjaeaa.Pure
