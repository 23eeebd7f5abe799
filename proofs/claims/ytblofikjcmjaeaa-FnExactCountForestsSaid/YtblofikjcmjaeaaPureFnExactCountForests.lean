/- The plain law of the statement FnExactCountForests: what the program's function computes is what the reference's computes, for all arguments; no condition. -/
import Derived.Test.YtblofikjcmjaeaaPFnExactCountForestsx3
namespace Go.Proofs.Ytblofikjcmjaeaa.Pure
open Go.RowKit Go.Proofs.Ytblofikjcmjaeaa.PFnExactCountForests Go.Proofs.YtblofikjcmjaeaaW.PrintWords Go.Proofs.YtblofikjcmjaeaaW.PrintLast Go.Proofs.YtblofikjcmjaeaaW.PrintMore

def C : Nat → Nat → Nat
  | _, 0 => 1
  | 0, _ + 1 => 0
  | n + 1, k + 1 => C n k + C n (k + 1)
theorem C_zero (n : Nat) : C n 0 = 1 := by cases n <;> rfl
theorem C_zs (k : Nat) : C 0 (k + 1) = 0 := rfl
theorem C_ss (n k : Nat) : C (n + 1) (k + 1) = C n k + C n (k + 1) := rfl
theorem C_lt : ∀ (n k : Nat), n < k → C n k = 0
  | 0, k + 1, _ => rfl
  | n + 1, k + 1, h => by rw [C_ss, C_lt n k (by omega), C_lt n (k + 1) (by omega)]
theorem C_self : ∀ n : Nat, C n n = 1
  | 0 => rfl
  | n + 1 => by rw [C_ss, C_self n, C_lt n (n + 1) (by omega)]
theorem C_pos : ∀ (n k : Nat), k ≤ n → 1 ≤ C n k
  | n, 0, _ => by rw [C_zero]; omega
  | n + 1, k + 1, h => by rw [C_ss]; have := C_pos n k (by omega); omega
theorem C_absorb : ∀ (n k : Nat), C (n + 1) (k + 1) * (k + 1) = (n + 1) * C n k
  | 0, 0 => rfl
  | 0, k + 1 => by rw [C_lt 1 (k + 2) (by omega), C_lt 0 (k + 1) (by omega)]; omega
  | n + 1, 0 => by
    have h := C_absorb n 0
    rw [C_ss, C_zero] ; rw [C_zero] at h; omega
  | n + 1, k + 1 => by
    have h1 := C_absorb n k
    have h2 := C_absorb n (k + 1)
    rw [C_ss (n + 1) (k + 1)]
    rw [C_ss n k] at h1 ⊢
    grind
theorem C_step (n k : Nat) (h : k ≤ n) : C n (k + 1) * (k + 1) = C n k * (n - k) := by
  have h1 := C_absorb n k
  rw [C_ss] at h1
  obtain ⟨d, rfl⟩ : ∃ d, n = k + d := ⟨n - k, by omega⟩
  rw [Nat.add_sub_cancel_left]
  grind
theorem C_symm : ∀ (n k : Nat), k ≤ n → C n (n - k) = C n k
  | 0, 0, _ => rfl
  | n + 1, 0, _ => by rw [Nat.sub_zero, C_self, C_zero]
  | n + 1, k + 1, h => by
    by_cases e : k = n
    · subst e; rw [Nat.sub_self, C_zero, C_self]
    · have h1 := C_symm n k (by omega)
      have h2 := C_symm n (k + 1) (by omega)
      have e1 : n + 1 - (k + 1) = (n - (k + 1)) + 1 := by omega
      rw [e1, C_ss, C_ss, h2]
      have e2 : n - (k + 1) + 1 = n - k := by omega
      rw [e2, h1]; omega
theorem C_le : ∀ (n k : Nat), C n k ≤ 2 ^ n
  | n, 0 => by rw [C_zero]; exact Nat.one_le_two_pow
  | 0, k + 1 => by rw [C_zs]; omega
  | n + 1, k + 1 => by
    rw [C_ss, Nat.pow_succ]
    cases n with
    | zero => cases k with
      | zero => decide
      | succ k => simp [C]
    | succ m =>
      have h1 := C_le (m+1) k
      have h2 := C_le (m+1) (k + 1)
      omega
theorem C_le40 (n k : Nat) (h : n ≤ 40) : C n k ≤ 1099511627776 := by
  have h1 := C_le n k
  have h2 : 2 ^ n ≤ 2 ^ 40 := Nat.pow_le_pow_right (by omega) h
  omega

theorem Ev.s {α : Type} {g : Nat → Option α} {r : α} (h : Ev (fun k => g (k + 1)) r) : Ev g r := by
  obtain ⟨K, hK⟩ := h
  refine ⟨K + 1, fun k hk => ?_⟩
  obtain ⟨m, rfl⟩ : ∃ m, k = m + 1 := ⟨k - 1, by omega⟩
  exact hK m (by omega)
theorem Ev.c {α : Type} {o : Option α} {r : α} (h : o = some r) : Ev (fun _ => o) r := ⟨0, fun _ _ => h⟩
theorem Ev.u {α : Type} {g : Nat → Option α} {r r' : α} (h : Ev g r) (h' : Ev g r') : r = r' := by
  obtain ⟨K, hK⟩ := h
  obtain ⟨K', hK'⟩ := h'
  have a := hK (max K K') (by omega)
  have b := hK' (max K K') (by omega)
  rw [a] at b
  exact Option.some.inj b
theorem Ev.e {α : Type} {g : Nat → Option α} {r r' : α} (h : Ev g r) (e : r = r') : Ev g r' := e ▸ h
theorem Ev.bs {α β : Type} {g : Nat → Option α} {f : Nat → α → Option β} {a : α} {r : β} (h : Ev g a) (k : Ev (fun n => f n a) r) : Ev (fun n => Option.bind (g n) (f n)) r := Ev.bind h k
theorem w64 {n : Int} (h : -9223372036854775808 ≤ n) (h' : n ≤ 9223372036854775807) : wrap64 n = n := by unfold wrap64; omega
theorem rd_set (l : List Int) (i j : Int) (v : Int) (hi : 0 ≤ i) (hj : 0 ≤ j) (hl : i < (l.length : Int)) : rd (l.set i.toNat v) j = if i = j then v else rd l j := by
  unfold rd
  rw [List.getD_eq_getElem?_getD, List.getD_eq_getElem?_getD, List.getElem?_set]
  by_cases e : i = j
  · subst e; rw [if_pos rfl, if_pos rfl, if_pos (by omega)]; rfl
  · rw [if_neg (by omega), if_neg e]

theorem in_eq (a b c : Int) : impl_in.f a b c = some (decide (b ≤ a ∧ a ≤ c)) := by
  unfold impl_in.f
  by_cases h : b ≤ a
  · rw [if_pos h]; simp [h]
  · rw [if_neg h]; simp [h]
theorem l1In_eq (a b c : Int) : spec_l1In.f a b c = some (decide (b ≤ a ∧ a ≤ c)) := by
  unfold spec_l1In.f
  by_cases h : a ≥ b
  · rw [if_pos h]; simp [h]
  · rw [if_neg h]; simp [h]
theorem choose_l0 (n : Nat) (hn : n ≤ 40) (j : Nat) (hj : j ≤ n) (d : Nat) : ∀ i : Nat, i + d = j →
    Ev (fun k => impl_choose.l0 k (n : Int) (C n i : Int) (j : Int) (i : Int)) (C n j : Int) := by
  induction d with
  | zero =>
    intro i hi
    obtain rfl : i = j := by omega
    refine Ev.s ?_
    simp (disch := omega) only [impl_choose.l0, if_neg]
    exact Ev.now _
  | succ d ih =>
    intro i hi
    refine Ev.s ?_
    have hb := C_le40 n i hn
    have hs := C_step n i (by omega)
    have hm : C n i * (n - i) ≤ 1099511627776 * 40 := Nat.mul_le_mul hb (by omega)
    have e1 : wrap64 ((n : Int) - (i : Int)) = ((n - i : Nat) : Int) := by rw [w64 (by omega) (by omega)]; omega
    have e2 : wrap64 ((i : Int) + 1) = ((i + 1 : Nat) : Int) := by rw [w64 (by omega) (by omega)]; omega
    have e3 : wrap64 ((C n i : Int) * ((n - i : Nat) : Int)) = ((C n (i + 1) * (i + 1) : Nat) : Int) := by
      rw [hs, ← Int.natCast_mul, w64 (by omega) (by omega)]
    have e4 : Int.tdiv ((C n (i + 1) * (i + 1) : Nat) : Int) ((i + 1 : Nat) : Int) = (C n (i + 1) : Int) := by
      rw [Int.natCast_mul]; exact Int.mul_tdiv_cancel _ (by omega)
    have e5 : wrap64 (C n (i + 1) : Int) = (C n (i + 1) : Int) := by
      have := C_le40 n (i + 1) hn
      rw [w64 (by omega) (by omega)]
    have hz : ¬ (((i + 1 : Nat) : Int) = 0) := by omega
    have hlt : (i : Int) < (j : Int) := by omega
    simp only [impl_choose.l0, e1, e2, e3, e4, e5, if_neg hz, if_pos hlt]
    exact ih (i + 1) (by omega)
/-- What `choose` comes to. -/
def Cz (n j : Int) : Int := if 0 ≤ j ∧ j ≤ n then (C n.toNat j.toNat : Int) else 0
theorem Cz_nat (n j : Nat) : Cz (n : Int) (j : Int) = (C n j : Int) := by
  unfold Cz
  by_cases h : j ≤ n
  · rw [if_pos (by omega)]; simp
  · rw [if_neg (by omega), C_lt n j (by omega)]; rfl
theorem Cz_le (n j : Int) (hn : n ≤ 40) : 0 ≤ Cz n j ∧ Cz n j ≤ 1099511627776 := by
  unfold Cz
  split
  · have := C_le40 n.toNat j.toNat (by omega); omega
  · omega
theorem Cz_symm (a b : Int) (ha : 0 ≤ a) (hb : 0 ≤ b) : Cz (a + b) b = Cz (a + b) a := by
  unfold Cz
  rw [if_pos (by omega), if_pos (by omega)]
  have h := C_symm (a + b).toNat a.toNat (by omega)
  rw [show (a + b).toNat - a.toNat = b.toNat from by omega] at h
  rw [h]
theorem choose_ev (n j : Int) (hn : n ≤ 40) : Ev (fun k => impl_choose.f k n j) (Cz n j) := by
  unfold impl_choose.f
  simp only [in_eq, Option.bind_some, decide_eq_true_eq]
  by_cases h : 0 ≤ j ∧ j ≤ n
  · simp only [if_pos h]
    have e := choose_l0 n.toNat (by omega) j.toNat (by omega) j.toNat 0 (by omega)
    rw [C_zero] at e
    have hc : Cz n j = (C n.toNat j.toNat : Int) := by unfold Cz; rw [if_pos h]
    rw [hc]
    simpa [show max n 0 = n from by omega, show max j 0 = j from by omega] using e
  · simp only [if_neg h]
    have hc : Cz n j = 0 := by unfold Cz; rw [if_neg h]
    rw [hc]; exact Ev.now _

theorem l1Least_eq (a b : Int) : spec_l1Least.f a b = some (min a b) := by
  unfold spec_l1Least.f
  by_cases h : a < b
  · rw [if_pos h]; congr 1; omega
  · rw [if_neg h]; congr 1; omega
def PRow (J : Nat) (l : List Int) (i j : Nat) : Prop :=
  l.length = J + 1 ∧ ∀ t : Nat, t ≤ J → rd l (t : Int) = if j < t then (C (i + 1) t : Int) else (C i t : Int)
theorem pa_l1 (n J : Nat) (hn : n ≤ 40) (hJ : J ≤ 40) (i : Nat) (hi : i < n) (j : Nat) : ∀ (l : List Int), j ≤ J → PRow J l i j →
    ∃ l', PRow J l' i 0 ∧ ∀ r, Ev (fun k => spec_paChoose.l0 k (n : Int) (J : Int) l' ((i + 2 : Nat) : Int)) r → Ev (fun k => spec_paChoose.l1 k (n : Int) (J : Int) l ((i + 1 : Nat) : Int) (j : Int)) r := by
  induction j with
  | zero =>
    intro l _ hl
    refine ⟨l, hl, fun r h => ?_⟩
    refine Ev.s ?_
    have e : wrap64 (((i + 1 : Nat) : Int) + 1) = ((i + 2 : Nat) : Int) := by rw [w64 (by omega) (by omega)]; omega
    have hz : ¬ (((0 : Nat) : Int) > 0) := by omega
    simp only [spec_paChoose.l1, if_neg hz, e]
    exact h
  | succ j ih =>
    intro l hj hl
    obtain ⟨hlen, hl⟩ := hl
    have a1 := hl (j + 1) hj
    have a2 := hl j (by omega)
    rw [if_neg (by omega)] at a1 a2
    have b1 := C_le40 i (j + 1) (by omega)
    have b2 := C_le40 i j (by omega)
    have e1 : wrap64 (((j + 1 : Nat) : Int) - 1) = (j : Int) := by rw [w64 (by omega) (by omega)]; omega
    have e2 : wrap64 ((C i (j + 1) : Int) + (C i j : Int)) = (C (i + 1) (j + 1) : Int) := by rw [w64 (by omega) (by omega), C_ss]; omega
    obtain ⟨l', h', hr⟩ := ih (l.set ((j + 1 : Nat) : Int).toNat (C (i + 1) (j + 1) : Int)) (by omega) (by
      refine ⟨by simpa using hlen, fun t ht => ?_⟩
      rw [rd_set _ _ _ _ (by omega) (by omega) (by omega)]
      by_cases e : ((j + 1 : Nat) : Int) = (t : Int)
      · have : t = j + 1 := by omega
        subst this
        rw [if_pos rfl, if_pos (by omega)]
      · rw [if_neg e, hl t ht]
        by_cases c : j < t
        · rw [if_pos c, if_pos (by omega)]
        · rw [if_neg c, if_neg (by omega)])
    refine ⟨l', h', fun r h => ?_⟩
    refine Ev.s ?_
    have c1 : ((j + 1 : Nat) : Int) > 0 := by omega
    have c2 : (0 : Int) ≤ ((j + 1 : Nat) : Int) := by omega
    have c3 : ((j + 1 : Nat) : Int) < (l.length : Int) := by omega
    have c4 : (0 : Int) ≤ (j : Int) := by omega
    have c5 : (j : Int) < (l.length : Int) := by omega
    simp only [spec_paChoose.l1, e1, a1, a2, e2, if_pos c1, if_pos c2, if_pos c3, if_pos c4, if_pos c5]
    exact hr r h
theorem pa_l0 (n J : Nat) (hn : n ≤ 40) (hJ : J ≤ 40) (d : Nat) : ∀ (i : Nat) (l : List Int), i + d = n → PRow J l i J →
    Ev (fun k => spec_paChoose.l0 k (n : Int) (J : Int) l ((i + 1 : Nat) : Int)) (C n J : Int) := by
  induction d with
  | zero =>
    intro i l hi hl
    obtain rfl : i = n := by omega
    obtain ⟨hlen, hl⟩ := hl
    have a := hl J (Nat.le_refl _)
    rw [if_neg (by omega)] at a
    refine Ev.s ?_
    have c1 : ¬ (((i + 1 : Nat) : Int) ≤ (i : Int)) := by omega
    have c2 : (0 : Int) ≤ (J : Int) := by omega
    have c3 : (J : Int) < (l.length : Int) := by omega
    simp only [spec_paChoose.l0, if_neg c1, if_pos c2, if_pos c3, a]
    exact Ev.now _
  | succ d ih =>
    intro i l hi hl
    have hmin : min (((i + 1 : Nat) : Int)) (J : Int) = ((min (i + 1) J : Nat) : Int) := by omega
    have hl2 : PRow J l i (min (i + 1) J) := by
      refine ⟨hl.1, fun t ht => ?_⟩
      have := hl.2 t ht
      rw [if_neg (by omega)] at this
      by_cases c : min (i + 1) J < t
      · rw [if_pos c, this, C_lt i t (by omega), C_lt (i + 1) t (by omega)]
      · rw [if_neg c, this]
    obtain ⟨l', h', hr⟩ := pa_l1 n J hn hJ i (by omega) (min (i + 1) J) l (by omega) hl2
    refine Ev.s ?_
    have c1 : (((i + 1 : Nat) : Int) ≤ (n : Int)) := by omega
    simp only [spec_paChoose.l0, if_pos c1, l1Least_eq, Option.bind_some, hmin]
    refine hr _ (ih (i + 1) l' (by omega) ⟨h'.1, fun t ht => ?_⟩)
    have := h'.2 t ht
    rw [if_neg (by omega), this]
    by_cases c : 0 < t
    · rw [if_pos c]
    · rw [if_neg c]; obtain rfl : t = 0 := by omega
      rw [C_zero, C_zero]
theorem paChoose_ev (n j : Int) (hn : n ≤ 40) : Ev (fun k => spec_paChoose.f k n j) (Cz n j) := by
  unfold spec_paChoose.f
  by_cases h0 : j < 0
  · simp only [if_pos h0]
    refine Ev.s ?_
    simp only [spec_paChoose.j0, if_true]
    have : Cz n j = 0 := by unfold Cz; rw [if_neg (by omega)]
    rw [this]; exact Ev.now _
  · simp only [if_neg h0]
    refine Ev.s ?_
    by_cases h1 : j > n
    · simp only [spec_paChoose.j0, decide_eq_true h1, if_true]
      have : Cz n j = 0 := by unfold Cz; rw [if_neg (by omega)]
      rw [this]; exact Ev.now _
    · have e1 : wrap64 (j + 1) = j + 1 := by rw [w64 (by omega) (by omega)]
      obtain ⟨J, rfl⟩ : ∃ J : Nat, j = (J : Int) := ⟨j.toNat, by omega⟩
      obtain ⟨N, rfl⟩ : ∃ N : Nat, n = (N : Int) := ⟨n.toNat, by omega⟩
      have e2 : ((J : Int) + 1).toNat = J + 1 := by omega
      have c1 : (0 : Int) ≤ (J : Int) + 1 := by omega
      have c2 : J + 1 ≤ 35184372088832 := by omega
      have c3 : (0 : Int) < ((List.replicate (J + 1) (0 : Int)).length : Int) := by rw [List.length_replicate]; omega
      have hb : decide ((J : Int) > (N : Int)) = false := decide_eq_false h1
      simp only [spec_paChoose.j0, hb, e1, e2, if_pos c1, if_pos c2, Option.bind_some, if_pos c3, Bool.false_eq_true, if_false]
      rw [Cz_nat]
      refine pa_l0 N J (by omega) (by omega) N 0 _ (by omega) ⟨by simp, fun t ht => ?_⟩
      have h0 : ¬ (J < t) := by omega
      have hr : ∀ u : Nat, rd (List.replicate (J + 1) (0 : Int)) (u : Int) = 0 := by
        intro u
        unfold rd
        rw [List.getD_eq_getElem?_getD, List.getElem?_replicate]
        split <;> rfl
      rw [rd_set _ _ _ _ (by omega) (by omega) c3]
      simp only [if_neg h0]
      by_cases e : (0 : Int) = (t : Int)
      · obtain rfl : t = 0 := by omega
        simp [C_zero]
      · obtain ⟨s, rfl⟩ : ∃ s, t = s + 1 := ⟨t - 1, by omega⟩
        simp only [if_neg e, C_zs]
        exact hr _

theorem drop_rd (l : List Int) (i : Nat) (h : i < l.length) : l.drop i = rd l (i : Int) :: l.drop (i + 1) := by
  rw [List.drop_eq_getElem_cons h]
  unfold rd
  rw [Int.toNat_natCast, List.getD_eq_getElem?_getD, List.getElem?_eq_getElem h]
  rfl
theorem rd_get (l : List Int) (i : Nat) (h : i < l.length) : rd l (i : Int) = l[i] := by
  unfold rd
  rw [Int.toNat_natCast, List.getD_eq_getElem?_getD, List.getElem?_eq_getElem h]
  rfl
theorem wsucc (i n : Nat) (h : i < n) (hn : n ≤ 9223372036854775807) : wrap64 ((i : Int) + 1) = ((i + 1 : Nat) : Int) := by
  rw [w64 (by omega) (by omega)]; omega
theorem rd_cons_succ (x : Int) (l : List Int) (i : Nat) : rd (x :: l) ((i + 1 : Nat) : Int) = rd l (i : Int) := by
  unfold rd
  simp only [Int.toNat_natCast, List.getD_cons_succ]
theorem rd_cons_zero (x : Int) (l : List Int) : rd (x :: l) 0 = x := rfl

theorem toIntS_l0 (l : List Int) (hn : l.length ≤ 35184372088832) (d : Nat) : ∀ (i : Nat) (m : List Int), i + d = l.length → m.length = l.length → m.take i = l.take i →
    Ev (fun k => laws_toIntS.l0 k l m (i : Int)) l := by
  induction d with
  | zero =>
    intro i m hi hm ht
    refine Ev.s ?_
    have c : ¬ ((i : Int) < (l.length : Int)) := by omega
    simp only [laws_toIntS.l0, if_neg c]
    rw [List.take_of_length_le (by omega), List.take_of_length_le (by omega)] at ht
    rw [ht]; exact Ev.now _
  | succ d ih =>
    intro i m hi hm ht
    refine Ev.s ?_
    have c1 : ((i : Int) < (l.length : Int)) := by omega
    have c2 : (0 : Int) ≤ (i : Int) := by omega
    have c3 : ((i : Int) < (m.length : Int)) := by omega
    have e := wsucc i l.length (by omega) (by omega)
    simp only [laws_toIntS.l0, if_pos c1, if_pos c2, if_pos c3, e, Int.toNat_natCast]
    refine ih (i + 1) _ (by omega) (by simpa using hm) ?_
    rw [rd_get l i (by omega)]
    rw [List.take_succ_eq_append_getElem (by simp; omega), List.take_set_of_le (by omega), ht, List.take_succ_eq_append_getElem (by omega)]
    simp
theorem toIntS_ev (l : List Int) (hn : l.length ≤ 35184372088832) : Ev (fun k => laws_toIntS.f k l) l := by
  unfold laws_toIntS.f
  have c1 : (0 : Int) ≤ (l.length : Int) := by omega
  have c2 : ((l.length : Int) : Int).toNat ≤ 35184372088832 := by omega
  simp only [if_pos c1, if_pos c2]
  exact toIntS_l0 l hn l.length 0 _ (by omega) (by simp) (by simp)

theorem eqIntS_l0 (l m : List Int) (hl : l.length = m.length) (hn : l.length ≤ 35184372088832) (d : Nat) : ∀ (i : Nat), i + d = l.length →
    Ev (fun k => laws_eqIntS.l0 k l m (i : Int)) (decide (l.drop i = m.drop i)) := by
  induction d with
  | zero =>
    intro i hi
    refine Ev.s ?_
    have c : ¬ ((i : Int) < (l.length : Int)) := by omega
    simp only [laws_eqIntS.l0, if_neg c]
    rw [List.drop_of_length_le (by omega), List.drop_of_length_le (by omega)]
    exact Ev.now _
  | succ d ih =>
    intro i hi
    refine Ev.s ?_
    have c1 : ((i : Int) < (l.length : Int)) := by omega
    have c2 : (0 : Int) ≤ (i : Int) := by omega
    have c3 : ((i : Int) < (m.length : Int)) := by omega
    have e := wsucc i l.length (by omega) (by omega)
    simp only [laws_eqIntS.l0, if_pos c1, if_pos c2, if_pos c3, e]
    rw [drop_rd l i (by omega), drop_rd m i (by omega)]
    by_cases h : rd l (i : Int) = rd m (i : Int)
    · simp only [if_pos h]
      refine Ev.e (ih (i + 1) (by omega)) ?_
      simp [h]
    · simp only [if_neg h]
      have : (decide (rd l (i : Int) :: l.drop (i + 1) = rd m (i : Int) :: m.drop (i + 1))) = false := by
        apply decide_eq_false; intro h'; exact h (List.cons.inj h').1
      rw [this]; exact Ev.now _
theorem eqIntS_ev (l m : List Int) (hn : l.length ≤ 35184372088832) : Ev (fun k => laws_eqIntS.f k l m) (decide (l = m)) := by
  unfold laws_eqIntS.f
  by_cases h : l.length = m.length
  · have c : ((l.length : Int) = (m.length : Int)) := by omega
    simp only [if_pos c]
    exact eqIntS_l0 l m h hn l.length 0 (by omega)
  · have c : ¬ ((l.length : Int) = (m.length : Int)) := by omega
    simp only [if_neg c]
    have : decide (l = m) = false := by apply decide_eq_false; intro e; rw [e] at h; exact h rfl
    rw [this]; exact Ev.now _

/-- Are these degrees? -/
def DegB (l : List Int) : Bool := decide (1 ≤ l.length ∧ l.length ≤ 16) && l.all (fun x => decide (0 ≤ x ∧ x ≤ 16))

theorem l1All_l0 (lo hi : Int) (l : List Int) (hn : l.length ≤ 35184372088832) (d : Nat) : ∀ (i : Nat), i + d = l.length →
    Ev (fun k => spec_l1All.l0 k lo hi l (l.length : Int) (i : Int)) ((l.drop i).all (fun x => decide (lo ≤ x ∧ x ≤ hi))) := by
  induction d with
  | zero =>
    intro i h
    refine Ev.s ?_
    have c : ¬ ((i : Int) < (l.length : Int)) := by omega
    simp only [spec_l1All.l0, if_neg c]
    rw [List.drop_of_length_le (by omega)]
    exact Ev.now _
  | succ d ih =>
    intro i h
    refine Ev.s ?_
    have c1 : ((i : Int) < (l.length : Int)) := by omega
    have c2 : (0 : Int) ≤ (i : Int) := by omega
    have e := wsucc i l.length (by omega) (by omega)
    rw [drop_rd l i (by omega)]
    simp only [spec_l1All.l0, if_pos c1, if_pos c2, e, l1In_eq, Option.bind_some, decide_eq_true_eq, List.all_cons]
    by_cases h' : lo ≤ rd l (i : Int) ∧ rd l (i : Int) ≤ hi
    · simp only [if_pos h', decide_eq_true h', Bool.true_and]
      exact ih (i + 1) (by omega)
    · simp only [if_neg h', decide_eq_false h', Bool.false_and]
      exact Ev.now _
theorem l1All_ev (lo hi : Int) (l : List Int) (hn : l.length ≤ 35184372088832) : Ev (fun k => spec_l1All.f k l lo hi) (l.all (fun x => decide (lo ≤ x ∧ x ≤ hi))) := by
  unfold spec_l1All.f
  exact l1All_l0 lo hi l hn l.length 0 (by omega)

/-- The excess from a place on. -/
def sumL : List Int → Int
  | [] => 0
  | x :: r => x + sumL r
theorem sumL_append (l m : List Int) : sumL (l ++ m) = sumL l + sumL m := by
  induction l with
  | nil => simp [sumL]
  | cons x r ih => simp only [List.cons_append, sumL, ih]; omega

theorem DegB_iff {l : List Int} (h : DegB l = true) : (1 ≤ l.length ∧ l.length ≤ 16) ∧ ∀ x ∈ l, 0 ≤ x ∧ x ≤ 16 := by
  unfold DegB at h
  simp only [Bool.and_eq_true, decide_eq_true_eq, List.all_eq_true] at h
  exact ⟨h.1, h.2⟩
theorem sumL_bd (l : List Int) (h : ∀ x ∈ l, 0 ≤ x ∧ x ≤ 16) : 0 ≤ sumL l ∧ sumL l ≤ 16 * (l.length : Int) := by
  induction l with
  | nil => simp [sumL]
  | cons x r ih =>
    have := ih (fun y hy => h y (List.mem_cons_of_mem _ hy))
    have hx := h x List.mem_cons_self
    simp only [sumL, List.length_cons]; omega
theorem deg_drop {l : List Int} (h : DegB l = true) (i : Nat) : 0 ≤ sumL (l.drop i) ∧ sumL (l.drop i) ≤ 256 := by
  obtain ⟨h1, h2⟩ := DegB_iff h
  have := sumL_bd (l.drop i) (fun x hx => h2 x (List.mem_of_mem_drop hx))
  rw [List.length_drop] at this
  omega
theorem deg_rd {l : List Int} (h : DegB l = true) (i : Nat) (hi : i < l.length) : 0 ≤ rd l (i : Int) ∧ rd l (i : Int) ≤ 16 := by
  rw [rd_get l i hi]
  exact (DegB_iff h).2 _ (List.getElem_mem _)
/-- The excess of degrees. -/
def Exc (l : List Int) : Int := (l.length : Int) - sumL l

theorem cyExcess_ev (l : List Int) (h : DegB l = true) : Ev (fun k => spec_cyExcess.f k l) (Exc l) := by
  have hl := (DegB_iff h).1
  have key : ∀ (d i : Nat) (x : Int), i + d = l.length → -1000 ≤ x - sumL (l.drop i) ∧ x ≤ 1000 → Ev (fun k => spec_cyExcess.l0 k x l (l.length : Int) (i : Int)) (x - sumL (l.drop i)) := by
    intro d
    induction d with
    | zero =>
      intro i x hi hx
      refine Ev.s ?_
      have c : ¬ ((i : Int) < (l.length : Int)) := by omega
      simp only [spec_cyExcess.l0, if_neg c]
      rw [List.drop_of_length_le (by omega)]
      exact Ev.c (by simp [sumL])
    | succ d ih =>
      intro i x hi hx
      have hr := deg_rd h i (by omega)
      have h0 := deg_drop h (i + 1)
      rw [drop_rd l i (by omega), sumL] at hx ⊢
      refine Ev.s ?_
      have c1 : ((i : Int) < (l.length : Int)) := by omega
      have c2 : (0 : Int) ≤ (i : Int) := by omega
      have e := wsucc i l.length (by omega) (by omega)
      have e2 : wrap64 (x - rd l (i : Int)) = x - rd l (i : Int) := w64 (by omega) (by omega)
      simp only [spec_cyExcess.l0, if_pos c1, if_pos c2, e, e2]
      exact Ev.e (ih (i + 1) (x - rd l (i : Int)) (by omega) (by omega)) (by omega)
  unfold spec_cyExcess.f Exc
  have h0 := deg_drop h 0
  have := key l.length 0 (l.length : Int) (by omega) (by omega)
  rwa [List.drop_zero] at this

/-- The factorial. -/
def fc : Nat → Nat
  | 0 => 1
  | n + 1 => (n + 1) * fc n
theorem fc_pos : ∀ n : Nat, 1 ≤ fc n
  | 0 => Nat.le_refl _
  | n + 1 => by
    have := fc_pos n
    have h := Nat.mul_le_mul (show 1 ≤ n + 1 from by omega) this
    unfold fc; omega
theorem fc_mono (n d : Nat) : fc n ≤ fc (n + d) := by
  induction d with
  | zero => exact Nat.le_refl _
  | succ d ih =>
    have h := Nat.mul_le_mul (show 1 ≤ n + d + 1 from by omega) (Nat.le_refl (fc (n + d)))
    have e : fc (n + d + 1) = (n + d + 1) * fc (n + d) := rfl
    rw [← Nat.add_assoc, e]
    omega
theorem fc_16 (n : Nat) (h : n ≤ 16) : fc n ≤ 20922789888000 := by
  have := fc_mono n (16 - n)
  rw [show n + (16 - n) = 16 from by omega] at this
  have e : fc 16 = 20922789888000 := by decide +kernel
  omega
theorem C_fact : ∀ (n k : Nat), k ≤ n → C n k * (fc k * fc (n - k)) = fc n
  | n, 0, _ => by
    rw [C_zero, Nat.sub_zero]
    show 1 * (1 * fc n) = fc n
    omega
  | n + 1, k + 1, h => by
    have ih := C_fact n k (by omega)
    have ab := C_absorb n k
    rw [show n + 1 - (k + 1) = n - k from by omega]
    show C (n + 1) (k + 1) * ((k + 1) * fc k * fc (n - k)) = (n + 1) * fc n
    rw [← ih]
    calc C (n + 1) (k + 1) * ((k + 1) * fc k * fc (n - k)) = (C (n + 1) (k + 1) * (k + 1)) * (fc k * fc (n - k)) := by grind
      _ = (n + 1) * (C n k * (fc k * fc (n - k))) := by rw [ab]; grind

/-- The sum of numbers. -/
def sN : List Nat → Nat
  | [] => 0
  | x :: r => x + sN r
/-- The product of their factorials. -/
def fL : List Nat → Nat
  | [] => 1
  | x :: r => fc x * fL r
theorem fL_pos : ∀ l : List Nat, 1 ≤ fL l
  | [] => Nat.le_refl _
  | x :: r => by
    have := Nat.mul_le_mul (fc_pos x) (fL_pos r)
    unfold fL; omega
/-- Choices, from the front. -/
def oP : Nat → Nat → List Nat → Nat
  | p, _, [] => p
  | p, n, x :: r => oP (p * C (n + x) x) (n + x) r
/-- Choices, out of what is left. -/
def oW : Nat → Nat → List Nat → Nat
  | p, _, [] => p
  | p, n, x :: r => oW (p * C n x) (n - x) r
theorem oP_fact : ∀ (l : List Nat) (p n A : Nat), p * A = fc n → oP p n l * (A * fL l) = fc (n + sN l)
  | [], p, n, A, h => by
    show p * (A * 1) = fc (n + 0)
    rw [Nat.mul_one, Nat.add_zero]; exact h
  | x :: r, p, n, A, h => by
    have ih := oP_fact r (p * C (n + x) x) (n + x) (A * fc x) (by
      have := C_fact (n + x) x (by omega)
      rw [Nat.add_sub_cancel] at this
      rw [← this, ← h]
      grind)
    show oP (p * C (n + x) x) (n + x) r * (A * (fc x * fL r)) = fc (n + (x + sN r))
    rw [← Nat.mul_assoc A, ih, Nat.add_assoc]
theorem oW_fact : ∀ (l : List Nat) (p n A N : Nat), sN l ≤ n → p * A * fc n = N → oW p n l * (A * fL l) * fc (n - sN l) = N
  | [], p, n, A, N, _, h => by
    show p * (A * 1) * fc (n - 0) = N
    rw [Nat.mul_one, Nat.sub_zero]; exact h
  | x :: r, p, n, A, N, hs, h => by
    unfold sN at hs
    have ih := oW_fact r (p * C n x) (n - x) (A * fc x) N (by omega) (by
      have := C_fact n x (by omega)
      rw [← h, ← this]
      grind)
    show oW (p * C n x) (n - x) r * (A * (fc x * fL r)) * fc (n - (x + sN r)) = N
    rw [← Nat.mul_assoc A, show n - (x + sN r) = n - x - sN r from by omega]
    exact ih
theorem o_same (l : List Nat) : oP 1 0 l = oW 1 (sN l) l := by
  have h1 := oP_fact l 1 0 1 rfl
  have h2 := oW_fact l 1 (sN l) 1 (fc (sN l)) (Nat.le_refl _) (by omega)
  rw [Nat.sub_self, show fc 0 = 1 from rfl, Nat.mul_one] at h2
  rw [Nat.zero_add] at h1
  rw [Nat.one_mul] at h1 h2
  have hp := fL_pos l
  exact Nat.eq_of_mul_eq_mul_right (by omega) (h1.trans h2.symm)
/-- Numbers as Go has them. -/
def LI (l : List Nat) : List Int := l.map (fun x : Nat => (x : Int))
theorem LI_len (l : List Nat) : (LI l).length = l.length := by unfold LI; simp
theorem LI_rd (l : List Nat) (i : Nat) (h : i < l.length) : rd (LI l) (i : Int) = (l[i] : Int) := by
  rw [rd_get _ _ (by rw [LI_len]; exact h)]
  unfold LI
  simp
theorem dropN (l : List Nat) (i : Nat) (h : i < l.length) : l.drop i = l[i] :: l.drop (i + 1) := List.drop_eq_getElem_cons h
theorem LI_of (l : List Int) (h : ∀ x ∈ l, 0 ≤ x ∧ x ≤ 16) : ∃ m : List Nat, l = LI m ∧ ∀ x ∈ m, x ≤ 16 := by
  refine ⟨l.map Int.toNat, ?_, ?_⟩
  · unfold LI
    rw [List.map_map]
    conv => lhs; rw [← List.map_id l]
    apply List.map_congr_left
    intro x hx
    have := h x hx
    show x = ((x.toNat : Nat) : Int)
    omega
  · intro x hx
    obtain ⟨y, hy, rfl⟩ := List.mem_map.1 hx
    have := h y hy
    omega
/-- The sum of places times numbers. -/
def wN : Nat → List Nat → Nat
  | _, [] => 0
  | i, x :: r => i * x + wN (i + 1) r
/-- Each place as often as its number says. -/
def exL : Nat → List Nat → List Int
  | _, [] => []
  | i, x :: r => List.replicate x (i : Int) ++ exL (i + 1) r
theorem exL_len : ∀ (l : List Nat) (i : Nat), (exL i l).length = sN l
  | [], _ => rfl
  | x :: r, i => by simp only [exL, List.length_append, List.length_replicate, exL_len r, sN]
theorem sumL_rep (n : Nat) (x : Int) : sumL (List.replicate n x) = n * x := by
  induction n with
  | zero => simp [sumL]
  | succ n ih =>
    rw [List.replicate_succ, sumL, ih, Int.natCast_succ, Int.add_mul]
    omega
theorem exL_sum : ∀ (l : List Nat) (i : Nat), sumL (exL i l) = (wN i l : Int)
  | [], _ => rfl
  | x :: r, i => by
    simp only [exL, wN]
    rw [sumL_append, sumL_rep, exL_sum r, Int.natCast_add, Int.natCast_mul, Int.mul_comm]
theorem exL_mem : ∀ (l : List Nat) (i : Nat) (y : Int), y ∈ exL i l → (i : Int) ≤ y ∧ y < (i : Int) + l.length
  | x :: r, i, y, h => by
    simp only [exL, List.mem_append, List.mem_replicate] at h
    rw [List.length_cons]
    rcases h with h | h
    · omega
    · have := exL_mem r (i + 1) y h
      omega
theorem wN_le : ∀ (l : List Nat) (i B : Nat), i + l.length ≤ B + 1 → wN i l ≤ B * sN l
  | [], _, _, _ => by simp [wN, sN]
  | x :: r, i, B, h => by
    rw [List.length_cons] at h
    have ih := wN_le r (i + 1) B (by omega)
    have := Nat.mul_le_mul (show i ≤ B from by omega) (Nat.le_refl x)
    simp only [wN, sN, Nat.mul_add]
    omega
theorem sN_drop (l : List Nat) (i : Nat) (h : i < l.length) : sN (l.drop i) = l[i] + sN (l.drop (i + 1)) := by rw [dropN l i h]; rfl

theorem wnat (n : Nat) (h : n ≤ 9223372036854775807) : wrap64 (n : Int) = (n : Int) := w64 (by omega) (by omega)
theorem cyOrders_ev (l : List Nat) (hl : l.length ≤ 17) (hs : sN l ≤ 16) : Ev (fun k => spec_cyOrders.f k (LI l)) ((oP 1 0 l : Nat) : Int) := by
  unfold spec_cyOrders.f
  have key : ∀ (d i p n A : Nat), i + d = l.length → n + sN (l.drop i) = sN l → p * A = fc n → 1 ≤ A → Ev (fun k => spec_cyOrders.l0 k (p : Int) (n : Int) (LI l) ((LI l).length : Int) (i : Int)) ((oP p n (l.drop i) : Nat) : Int) := by
    intro d
    induction d with
    | zero =>
      intro i p n A hi _ _ _
      refine Ev.s ?_
      have c : ¬ ((i : Int) < ((LI l).length : Int)) := by rw [LI_len]; omega
      simp only [spec_cyOrders.l0, if_neg c]
      rw [List.drop_of_length_le (by omega)]
      exact Ev.now _
    | succ d ih =>
      intro i p n A hi hn hp hA
      refine Ev.s ?_
      have hsd := sN_drop l i (by omega)
      have c1 : ((i : Int) < ((LI l).length : Int)) := by rw [LI_len]; omega
      have c2 : (0 : Int) ≤ (i : Int) := by omega
      have hr := LI_rd l i (by omega)
      have hc := paChoose_ev ((n + l[i] : Nat) : Int) ((l[i] : Nat) : Int) (by omega)
      rw [Cz_nat] at hc
      have hp' : p * C (n + l[i]) l[i] * (A * fc l[i]) = fc (n + l[i]) := by
        have := C_fact (n + l[i]) l[i] (by omega)
        rw [Nat.add_sub_cancel] at this
        rw [← this, ← hp]
        grind
      have hA' : 1 ≤ A * fc l[i] := by
        have := Nat.mul_le_mul hA (fc_pos l[i])
        omega
      have hb : p * C (n + l[i]) l[i] ≤ 20922789888000 := by
        have h1 := fc_16 (n + l[i]) (by omega)
        have h2 := Nat.mul_le_mul (Nat.le_refl (p * C (n + l[i]) l[i])) hA'
        rw [hp'] at h2
        omega
      have hx := ih (i + 1) (p * C (n + l[i]) l[i]) (n + l[i]) (A * fc l[i]) (by omega) (by omega) hp' hA'
      have w1 : wrap64 ((n : Int) + ((l[i] : Nat) : Int)) = ((n + l[i] : Nat) : Int) := by rw [w64 (by omega) (by omega)]; omega
      have w2 : wrap64 ((p : Int) * ((C (n + l[i]) l[i] : Nat) : Int)) = ((p * C (n + l[i]) l[i] : Nat) : Int) := by
        rw [← Int.natCast_mul]; exact wnat _ (by omega)
      have e := wsucc i l.length (by omega) (by omega)
      simp only [spec_cyOrders.l0, if_pos c1, if_pos c2, hr, w1, e]
      refine Ev.bs hc ?_
      simp only [w2]
      rw [dropN l i (by omega)]
      exact hx
  have := key l.length 0 1 0 1 (by omega) (by rw [List.drop_zero, Nat.zero_add]) rfl (Nat.le_refl _)
  rw [List.drop_zero] at this
  exact this

theorem implWays_ev (l : List Nat) (hl : l.length ≤ 17) (hs : 1 ≤ sN l ∧ sN l ≤ 16) (r : Int) :
    Ev (fun k => impl_CountForests.l0 k ((sN l : Nat) : Int) r 1 ((sN l : Nat) : Int) (LI l) ((LI l).length : Int) 0) (wrap64 (Int.tdiv (wrap64 (r * ((oW 1 (sN l) l : Nat) : Int))) ((sN l : Nat) : Int)), true) := by
  generalize hN : sN l = N at hs
  have key : ∀ (d i p n A : Nat), i + d = l.length → n = sN (l.drop i) → n ≤ 16 → p * A * fc n = fc N → 1 ≤ A → Ev (fun k => impl_CountForests.l0 k (N : Int) r (p : Int) (n : Int) (LI l) ((LI l).length : Int) (i : Int)) (wrap64 (Int.tdiv (wrap64 (r * ((oW p n (l.drop i) : Nat) : Int))) (N : Int)), true) := by
    intro d
    induction d with
    | zero =>
      intro i p n A hi _ _ _ _
      refine Ev.s ?_
      have c : ¬ ((i : Int) < ((LI l).length : Int)) := by rw [LI_len]; omega
      have c3 : ¬ ((N : Int) = 0) := by omega
      simp only [impl_CountForests.l0, if_neg c, if_neg c3]
      rw [List.drop_of_length_le (by omega)]
      exact Ev.now _
    | succ d ih =>
      intro i p n A hi hn hn16 hp hA
      refine Ev.s ?_
      have hsd := sN_drop l i (by omega)
      have c1 : ((i : Int) < ((LI l).length : Int)) := by rw [LI_len]; omega
      have c2 : (0 : Int) ≤ (i : Int) := by omega
      have e := wsucc i l.length (by omega) (by omega)
      have hr := LI_rd l i (by omega)
      have w1 : wrap64 ((n : Int) - ((l[i] : Nat) : Int)) = ((n - l[i] : Nat) : Int) := by rw [w64 (by omega) (by omega)]; omega
      simp only [impl_CountForests.l0, if_pos c1, if_pos c2, hr, w1, e]
      have hc := choose_ev (n : Int) ((l[i] : Nat) : Int) (by omega)
      rw [Cz_nat] at hc
      refine Ev.bs hc ?_
      have hp' : p * C n l[i] * (A * fc l[i]) * fc (n - l[i]) = fc N := by
        have := C_fact n l[i] (by omega)
        rw [← hp, ← this]
        grind
      have hA' : 1 ≤ A * fc l[i] := by
        have := Nat.mul_le_mul hA (fc_pos l[i])
        omega
      have hb : p * C n l[i] ≤ 20922789888000 := by
        have h1 := fc_16 N (by omega)
        have h2 := Nat.mul_le_mul hA' (fc_pos (n - l[i]))
        have h3 := Nat.mul_le_mul (Nat.le_refl (p * C n l[i])) h2
        rw [← Nat.mul_assoc, ← Nat.mul_assoc, hp'] at h3
        omega
      have w2 : wrap64 ((p : Int) * ((C n l[i] : Nat) : Int)) = ((p * C n l[i] : Nat) : Int) := by
        rw [← Int.natCast_mul, w64 (by omega) (by omega)]
      simp only [w2]
      rw [dropN l i (by omega)]
      exact ih (i + 1) _ _ _ (by omega) (by omega) (by omega) hp' hA'
  have := key l.length 0 1 N 1 (by omega) (by simp [hN]) (by omega) (by simp) (Nat.le_refl _)
  rw [List.drop_zero] at this
  exact this

theorem oP_bd (l : List Nat) (hs : sN l ≤ 16) : oP 1 0 l ≤ 20922789888000 := by
  have h1 := oP_fact l 1 0 1 rfl
  rw [Nat.zero_add, Nat.one_mul] at h1
  have h2 := Nat.mul_le_mul (Nat.le_refl (oP 1 0 l)) (fL_pos l)
  have h3 := fc_16 (sN l) hs
  omega

/-- What nodesOf comes to. -/
theorem nodesOf_ev (l : List Int) (hn : l.length ≤ 35184372088832) : ∃ a b : Int, ∃ c : Bool, Ev (fun k => impl_nodesOf.f k l) (a, b, c) ∧
    ((l.length ≤ 17 ∧ l.all (fun x => decide (0 ≤ x ∧ x ≤ 16)) = true → ∀ m : List Nat, l = LI m → a = (sN m : Int) ∧ b = (sN m : Int) - (wN 0 m : Int) ∧ c = decide (1 ≤ sN m ∧ sN m ≤ 16)) ∧
     (¬ (l.length ≤ 17 ∧ l.all (fun x => decide (0 ≤ x ∧ x ≤ 16)) = true) → c = false)) := by
  unfold impl_nodesOf.f
  by_cases h17 : (l.length : Int) > 17
  · refine ⟨0, 0, false, by simp only [if_pos h17]; exact Ev.now _, fun h => by omega, fun _ => rfl⟩
  simp only [if_neg h17]
  by_cases hall : l.all (fun x => decide (0 ≤ x ∧ x ≤ 16)) = true
  · obtain ⟨m, rfl, hm⟩ := LI_of l (fun x hx => by
      have := List.all_eq_true.1 hall x hx
      exact of_decide_eq_true this)
    rw [LI_len] at h17
    refine ⟨(sN m : Int), (sN m : Int) - (wN 0 m : Int), decide (1 ≤ sN m ∧ sN m ≤ 16), ?_, fun _ m' e => ?_, fun h => absurd ⟨by rw [LI_len]; omega, hall⟩ h⟩
    · have bd : ∀ (d i : Nat), i + d = m.length → sN (m.drop i) ≤ 16 * d := by
        intro d
        induction d with
        | zero => intro i hi; rw [List.drop_of_length_le (by omega)]; simp [sN]
        | succ d ih =>
          intro i hi
          have := ih (i + 1) (by omega)
          have h2 := hm m[i] (List.getElem_mem _)
          rw [sN_drop m i (by omega)]
          omega
      have key : ∀ (d i a b : Nat), i + d = m.length → a + sN (m.drop i) = sN m → a ≤ 16 * i → b ≤ 272 * i → Ev (fun k => impl_nodesOf.l0 k (a : Int) (b : Int) (LI m) ((LI m).length : Int) (i : Int)) ((sN m : Int), (sN m : Int) - ((b + wN i (m.drop i) : Nat) : Int), decide (1 ≤ sN m ∧ sN m ≤ 16)) := by
        intro d
        induction d with
        | zero =>
          intro i a b hi ha ha' hb
          refine Ev.s ?_
          have c : ¬ ((i : Int) < ((LI m).length : Int)) := by rw [LI_len]; omega
          rw [List.drop_of_length_le (by omega)] at ha ⊢
          have ha2 : a = sN m := by rw [show sN [] = 0 from rfl] at ha; omega
          have w : wrap64 ((a : Int) - (b : Int)) = (a : Int) - (b : Int) := w64 (by omega) (by omega)
          simp only [impl_nodesOf.l0, if_neg c, in_eq, Option.bind_some, w]
          subst ha2
          refine Ev.c ?_
          have e1 : decide ((1 : Int) ≤ (sN m : Int) ∧ (sN m : Int) ≤ 16) = decide (1 ≤ sN m ∧ sN m ≤ 16) := by
            rw [decide_eq_decide]; omega
          rw [e1]
          rfl
        | succ d ih =>
          intro i a b hi ha ha' hb
          refine Ev.s ?_
          have hsd := sN_drop m i (by omega)
          have h2 := hm m[i] (List.getElem_mem _)
          have c1 : ((i : Int) < ((LI m).length : Int)) := by rw [LI_len]; omega
          have c2 : (0 : Int) ≤ (i : Int) := by omega
          have hr := LI_rd m i (by omega)
          have hix : i * m[i] ≤ 17 * 16 := Nat.mul_le_mul (by omega) h2
          have c3 : (0 : Int) ≤ ((m[i] : Nat) : Int) ∧ ((m[i] : Nat) : Int) ≤ 16 := by omega
          have ba : a + m[i] ≤ 9223372036854775807 := by omega
          have bb : b + i * m[i] ≤ 9223372036854775807 := by omega
          have hx := ih (i + 1) (a + m[i]) (b + i * m[i]) (by omega) (by omega) (by omega) (by omega)
          have w1 : wrap64 ((a : Int) + ((m[i] : Nat) : Int)) = ((a + m[i] : Nat) : Int) := by rw [← Int.natCast_add]; exact wnat _ ba
          have w2 : wrap64 ((i : Int) * ((m[i] : Nat) : Int)) = ((i * m[i] : Nat) : Int) := by rw [← Int.natCast_mul]; exact wnat _ (by omega)
          have w3 : wrap64 ((b : Int) + ((i * m[i] : Nat) : Int)) = ((b + i * m[i] : Nat) : Int) := by rw [← Int.natCast_add]; exact wnat _ bb
          have e := wsucc i m.length (by omega) (by omega)
          simp only [impl_nodesOf.l0, if_pos c1, if_pos c2, hr, in_eq, Option.bind_some, decide_eq_true c3, if_true, w1, w2, w3, e]
          rw [dropN m i (by omega)]
          have e2 : b + i * m[i] + wN (i + 1) (m.drop (i + 1)) = b + wN i (m[i] :: m.drop (i + 1)) := by simp only [wN, Nat.add_assoc]
          rw [e2] at hx
          exact hx
      have := key m.length 0 0 0 (by omega) (by simp) (by omega) (by omega)
      simp only [Nat.zero_add, List.drop_zero] at this
      exact this
    · have : m' = m := by
        have : (LI m').map Int.toNat = (LI m).map Int.toNat := by rw [e]
        unfold LI at this
        rw [List.map_map, List.map_map] at this
        have z : (Int.toNat ∘ fun x : Nat => (x : Int)) = id := by funext x; simp
        rw [z, List.map_id, List.map_id] at this
        exact this
      subst this
      exact ⟨rfl, rfl, rfl⟩
  · have hx : ∃ i : Nat, i < l.length ∧ ¬ (0 ≤ rd l (i : Int) ∧ rd l (i : Int) ≤ 16) := by
      rw [List.all_eq_true] at hall
      simp only [Classical.not_forall] at hall
      obtain ⟨x, hx, hn⟩ := hall
      obtain ⟨i, hi, rfl⟩ := List.mem_iff_getElem.1 hx
      refine ⟨i, hi, ?_⟩
      rw [rd_get l i hi]
      simpa using hn
    have key : ∀ (d i : Nat) (a b : Int), i + d = l.length → (∃ j : Nat, i ≤ j ∧ j < l.length ∧ ¬ (0 ≤ rd l (j : Int) ∧ rd l (j : Int) ≤ 16)) → Ev (fun k => impl_nodesOf.l0 k a b l (l.length : Int) (i : Int)) (0, 0, false) := by
      intro d
      induction d with
      | zero =>
        intro i a b hi hj
        obtain ⟨j, h1, h2, _⟩ := hj
        omega
      | succ d ih =>
        intro i a b hi hj
        refine Ev.s ?_
        have c1 : ((i : Int) < (l.length : Int)) := by omega
        have c2 : (0 : Int) ≤ (i : Int) := by omega
        have e := wsucc i l.length (by omega) (by omega)
        by_cases g : 0 ≤ rd l (i : Int) ∧ rd l (i : Int) ≤ 16
        · simp only [impl_nodesOf.l0, if_pos c1, if_pos c2, in_eq, Option.bind_some, decide_eq_true g, if_true, e]
          refine ih (i + 1) _ _ (by omega) ?_
          obtain ⟨j, h1, h2, h3⟩ := hj
          refine ⟨j, ?_, h2, h3⟩
          by_cases z : j = i
          · subst z; exact absurd g h3
          · omega
        · simp only [impl_nodesOf.l0, if_pos c1, if_pos c2, in_eq, Option.bind_some, decide_eq_false g, Bool.false_eq_true, if_false]
          exact Ev.now _
    obtain ⟨i, hi, hx⟩ := hx
    refine ⟨0, 0, false, ?_, fun h => absurd h.2 hall, fun _ => rfl⟩
    exact key l.length 0 0 0 (by omega) ⟨i, by omega, hi, hx⟩

/-- What cyCounts comes to, for numbers that are in range. -/
theorem cyCounts_ev (m : List Nat) (hl : m.length ≤ 17) (hm : ∀ x ∈ m, x ≤ 16) : Ev (fun k => spec_cyCounts.f k (LI m)) (if 1 ≤ sN m ∧ sN m ≤ 16 then (exL 0 m, true) else ([], false)) := by
  have hall : (LI m).all (fun x => decide (0 ≤ x ∧ x ≤ 16)) = true := by
    rw [List.all_eq_true]
    intro y hy
    obtain ⟨x, hx, rfl⟩ := List.mem_map.1 hy
    have := hm x hx
    exact decide_eq_true (by omega)
  unfold spec_cyCounts.f
  have h17 : ¬ (((LI m).length : Int) > 17) := by rw [LI_len]; omega
  simp only [if_neg h17]
  refine Ev.bs (l1All_ev 0 16 (LI m) (by rw [LI_len]; omega)) ?_
  rw [hall]
  refine Ev.s ?_
  simp only [spec_cyCounts.j0, Bool.not_true, Bool.false_eq_true, if_false]
  have inner : ∀ (i x : Nat) (a : List Int) (R : List Int × Bool), a.length + x ≤ 40 → Ev (fun k => if ((a ++ List.replicate x (i : Int)).length : Int) > 16 then some (([] : List Int), false) else spec_cyCounts.l0 k (a ++ List.replicate x (i : Int)) (LI m) ((LI m).length : Int) (wrap64 ((i : Int) + 1))) R → Ev (fun k => spec_cyCounts.l1 k a (i : Int) (x : Int) (LI m) ((LI m).length : Int) (i : Int)) R := by
    intro i x
    induction x with
    | zero =>
      intro a R ha h
      refine Ev.s ?_
      have c : ¬ (((0 : Nat) : Int) > 0) := by omega
      simp only [spec_cyCounts.l1, if_neg c]
      rwa [List.replicate_zero, List.append_nil] at h
    | succ x ih =>
      intro a R ha h
      refine Ev.s ?_
      have c : (((x + 1 : Nat) : Int) > 0) := by omega
      have c2 : a.length < 17592186044416 := by omega
      have w : wrap64 (((x + 1 : Nat) : Int) - 1) = (x : Int) := by rw [w64 (by omega) (by omega)]; omega
      simp only [spec_cyCounts.l1, if_pos c, if_pos c2, w]
      refine ih _ _ (by simp only [List.length_append, List.length_singleton]; omega) ?_
      rwa [List.append_assoc, show [(i : Int)] ++ List.replicate x (i : Int) = List.replicate (x + 1) (i : Int) from rfl]
  have key : ∀ (d i : Nat) (a : List Int), i + d = m.length → a.length ≤ 16 → Ev (fun k => spec_cyCounts.l0 k a (LI m) ((LI m).length : Int) (i : Int)) (if a.length + sN (m.drop i) ≤ 16 then (a ++ exL i (m.drop i), decide (1 ≤ a.length + sN (m.drop i))) else ([], false)) := by
    intro d
    induction d with
    | zero =>
      intro i a hi ha
      refine Ev.s ?_
      have c : ¬ ((i : Int) < ((LI m).length : Int)) := by rw [LI_len]; omega
      simp only [spec_cyCounts.l0, if_neg c]
      rw [List.drop_of_length_le (by omega)]
      refine Ev.c ?_
      rw [show sN [] = 0 from rfl, Nat.add_zero, if_pos ha, show exL i [] = [] from rfl, List.append_nil]
      have e : decide ((a.length : Int) > 0) = decide (1 ≤ a.length) := by rw [decide_eq_decide]; omega
      rw [e]
    | succ d ih =>
      intro i a hi ha
      refine Ev.s ?_
      have h2 := hm m[i] (List.getElem_mem _)
      have c1 : ((i : Int) < ((LI m).length : Int)) := by rw [LI_len]; omega
      have c2 : (0 : Int) ≤ (i : Int) := by omega
      have hr := LI_rd m i (by omega)
      have e := wsucc i m.length (by omega) (by omega)
      simp only [spec_cyCounts.l0, if_pos c1, if_pos c2, hr]
      refine inner i m[i] a _ (by omega) ?_
      rw [dropN m i (by omega), e]
      have hlen : (a ++ List.replicate m[i] (i : Int)).length = a.length + m[i] := by rw [List.length_append, List.length_replicate]
      by_cases g : a.length + m[i] ≤ 16
      · have g1 : ¬ (((a ++ List.replicate m[i] (i : Int)).length : Int) > 16) := by rw [hlen]; omega
        simp only [if_neg g1]
        have := ih (i + 1) (a ++ List.replicate m[i] (i : Int)) (by omega) (by omega)
        rw [hlen, List.append_assoc, Nat.add_assoc] at this
        exact this
      · have g1 : ((a ++ List.replicate m[i] (i : Int)).length : Int) > 16 := by rw [hlen]; omega
        have g2 : ¬ (a.length + sN (m[i] :: m.drop (i + 1)) ≤ 16) := by
          rw [show sN (m[i] :: m.drop (i + 1)) = m[i] + sN (m.drop (i + 1)) from rfl]; omega
        simp only [if_pos g1, if_neg g2]
        exact Ev.now _
  have := key m.length 0 [] (by omega) (by simp)
  rw [List.drop_zero, List.nil_append, List.length_nil, Nat.zero_add] at this
  refine Ev.e this ?_
  by_cases g : sN m ≤ 16
  · by_cases g2 : 1 ≤ sN m
    · rw [if_pos g, if_pos ⟨g2, g⟩, decide_eq_true g2]
    · have hz : exL 0 m = [] := List.eq_nil_of_length_eq_zero (by rw [exL_len]; omega)
      rw [if_pos g, if_neg (fun h => g2 h.1), decide_eq_false g2, hz]
  · rw [if_neg g, if_neg (fun h => g h.2)]
theorem cyCounts_no (l : List Int) (hn : l.length ≤ 35184372088832) (h : ¬ (l.length ≤ 17 ∧ l.all (fun x => decide (0 ≤ x ∧ x ≤ 16)) = true)) : Ev (fun k => spec_cyCounts.f k l) ([], false) := by
  unfold spec_cyCounts.f
  by_cases h17 : (l.length : Int) > 17
  · simp only [if_pos h17]
    refine Ev.s ?_
    simp only [spec_cyCounts.j0, if_true]
    exact Ev.now _
  · simp only [if_neg h17]
    refine Ev.bs (l1All_ev 0 16 l hn) ?_
    have : l.all (fun x => decide (0 ≤ x ∧ x ≤ 16)) = false := by
      cases hb : l.all (fun x => decide (0 ≤ x ∧ x ≤ 16)) with
      | true => exact absurd ⟨by omega, hb⟩ h
      | false => rfl
    rw [this]
    refine Ev.s ?_
    simp only [spec_cyCounts.j0, Bool.not_false, if_true]
    exact Ev.now _

theorem cyExcess_ex (m : List Nat) (hl : m.length ≤ 17) (hs : 1 ≤ sN m ∧ sN m ≤ 16) : Ev (fun k => spec_cyExcess.f k (exL 0 m)) ((sN m : Int) - (wN 0 m : Int)) := by
  have hd : DegB (exL 0 m) = true := by
    unfold DegB
    rw [exL_len, decide_eq_true hs, Bool.true_and, List.all_eq_true]
    intro y hy
    have := exL_mem m 0 y hy
    exact decide_eq_true (by omega)
  have := cyExcess_ev (exL 0 m) hd
  unfold Exc at this
  rwa [exL_len, exL_sum] at this
theorem specForests_ev (m : List Nat) (hl : m.length ≤ 17) (hm : ∀ x ∈ m, x ≤ 16) : Ev (fun k => spec_CountForests.f k (LI m))
    (if 1 ≤ sN m ∧ sN m ≤ 16 then (if (sN m : Int) - (wN 0 m : Int) < 1 then (0, true) else (wrap64 (Int.tdiv (wrap64 (((oP 1 0 m : Nat) : Int) * ((sN m : Int) - (wN 0 m : Int)))) (sN m : Int)), true)) else (0, false)) := by
  unfold spec_CountForests.f
  refine Ev.bs (cyCounts_ev m hl hm) ?_
  by_cases hs : 1 ≤ sN m ∧ sN m ≤ 16
  · simp only [if_pos hs, if_true]
    refine Ev.bs (cyExcess_ex m hl hs) ?_
    by_cases hx : (sN m : Int) - (wN 0 m : Int) < 1
    · simp only [if_pos hx]; exact Ev.now _
    · simp only [if_neg hx]
      refine Ev.bs (cyOrders_ev m hl hs.2) ?_
      have c : ¬ ((sN m : Int) = 0) := by omega
      simp only [exL_len, if_neg c]
      exact Ev.now _
  · simp only [if_neg hs, Bool.false_eq_true, if_false]
    exact Ev.now _
theorem implForests_ev (m : List Nat) (hl : m.length ≤ 17) (hm : ∀ x ∈ m, x ≤ 16) : Ev (fun k => impl_CountForests.f k (LI m))
    (if 1 ≤ sN m ∧ sN m ≤ 16 then (if (sN m : Int) - (wN 0 m : Int) < 1 then (0, true) else (wrap64 (Int.tdiv (wrap64 (((oP 1 0 m : Nat) : Int) * ((sN m : Int) - (wN 0 m : Int)))) (sN m : Int)), true)) else (0, false)) := by
  unfold impl_CountForests.f
  obtain ⟨a, b, c, hev, hyes, _⟩ := nodesOf_ev (LI m) (by rw [LI_len]; omega)
  have hall : (LI m).all (fun x => decide (0 ≤ x ∧ x ≤ 16)) = true := by
    rw [List.all_eq_true]
    intro y hy
    obtain ⟨x, hx, rfl⟩ := List.mem_map.1 hy
    have := hm x hx
    exact decide_eq_true (by omega)
  obtain ⟨rfl, rfl, rfl⟩ := hyes ⟨by rw [LI_len]; omega, hall⟩ m rfl
  refine Ev.bs hev ?_
  by_cases hs : 1 ≤ sN m ∧ sN m ≤ 16
  · simp only [decide_eq_true hs, if_true, if_pos hs]
    refine Ev.s ?_
    by_cases hx : (sN m : Int) - (wN 0 m : Int) < 1
    · simp only [impl_CountForests.j0, decide_eq_true hx, if_true, if_pos hx]; exact Ev.now _
    · simp only [impl_CountForests.j0, decide_eq_false hx, Bool.false_eq_true, if_false, if_neg hx]
      have := implWays_ev m hl hs ((sN m : Int) - (wN 0 m : Int))
      rw [← o_same, Int.mul_comm] at this
      exact this
  · simp only [decide_eq_false hs, Bool.false_eq_true, if_false, if_neg hs]
    refine Ev.s ?_
    simp only [impl_CountForests.j0, if_true]
    exact Ev.now _
theorem FnExactCountForests : laws_FnExactCountForests.Pure := by
  intro l _ hl _
  have hn : l.length ≤ 35184372088832 := by omega
  refine Ev.rounds ?_
  unfold laws_FnExactCountForests.f
  by_cases h : (l.length : Int) > 1048576
  · simp only [if_pos h]; exact Ev.now _
  simp only [if_neg h]
  have two : ∃ R : Int × Bool, Ev (fun k => spec_CountForests.f k l) R ∧ Ev (fun k => impl_CountForests.f k l) R := by
    by_cases g : l.length ≤ 17 ∧ l.all (fun x => decide (0 ≤ x ∧ x ≤ 16)) = true
    · obtain ⟨m, rfl, hm⟩ := LI_of l (fun x hx => of_decide_eq_true (List.all_eq_true.1 g.2 x hx))
      rw [LI_len] at g
      exact ⟨_, specForests_ev m g.1 hm, implForests_ev m g.1 hm⟩
    · refine ⟨(0, false), ?_, ?_⟩
      · unfold spec_CountForests.f
        refine Ev.bs (cyCounts_no l hn g) ?_
        simp only [Bool.false_eq_true, if_false]
        exact Ev.now _
      · unfold impl_CountForests.f
        obtain ⟨a, b, c, hev, _, hno⟩ := nodesOf_ev l hn
        refine Ev.bs hev ?_
        rw [hno g]
        simp only [Bool.false_eq_true, if_false]
        refine Ev.s ?_
        simp only [impl_CountForests.j0, if_true]
        exact Ev.now _
  obtain ⟨R, e1, e2⟩ := two
  refine Ev.bs (toIntS_ev l hn) (Ev.bs e1 (Ev.bs (toIntS_ev l hn) (Ev.bs e2 ?_)))
  simp only [if_true, bne_self_eq_false]
  refine Ev.s ?_
  simp only [laws_FnExactCountForests.j0, Bool.false_eq_true, if_false]
  refine Ev.bs (toIntS_ev l hn) (Ev.bs (eqIntS_ev l l hn) (Ev.c ?_))
  simp

end Go.Proofs.Ytblofikjcmjaeaa.Pure
