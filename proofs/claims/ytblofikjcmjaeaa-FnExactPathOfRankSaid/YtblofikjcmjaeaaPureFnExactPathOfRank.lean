/- The plain law of the statement FnExactPathOfRank: what the program's function computes is what the reference's computes, for all arguments; no condition. -/
import Derived.Test.YtblofikjcmjaeaaPFnExactPathOfRankx2
namespace Go.Proofs.Ytblofikjcmjaeaa.Pure
open Go.RowKit Go.Proofs.Ytblofikjcmjaeaa.PFnExactPathOfRank Go.Proofs.YtblofikjcmjaeaaW.PrintWords Go.Proofs.YtblofikjcmjaeaaW.PrintLast Go.Proofs.YtblofikjcmjaeaaW.PrintMore

def C : Nat → Nat → Nat
  | _, 0 => 1
  | 0, _ + 1 => 0
  | n + 1, k + 1 => C n k + C n (k + 1)
theorem C_zero (n : Nat) : C n 0 = 1 := by cases n <;> rfl
theorem C_zs (k : Nat) : C 0 (k + 1) = 0 := rfl
theorem C_ss (n k : Nat) : C (n + 1) (k + 1) = C n k + C n (k + 1) := rfl
theorem C_lt : ∀ (n k : Nat), n < k → C n k = 0
  | 0, k + 1, _ => rfl
  | n + 1, k + 1, h => by rw [C_ss, C_lt n k (by omega), C_lt n (k + 1) (by omega)]
theorem C_self : ∀ n : Nat, C n n = 1
  | 0 => rfl
  | n + 1 => by rw [C_ss, C_self n, C_lt n (n + 1) (by omega)]
theorem C_pos : ∀ (n k : Nat), k ≤ n → 1 ≤ C n k
  | n, 0, _ => by rw [C_zero]; omega
  | n + 1, k + 1, h => by rw [C_ss]; have := C_pos n k (by omega); omega
theorem C_absorb : ∀ (n k : Nat), C (n + 1) (k + 1) * (k + 1) = (n + 1) * C n k
  | 0, 0 => rfl
  | 0, k + 1 => by rw [C_lt 1 (k + 2) (by omega), C_lt 0 (k + 1) (by omega)]; omega
  | n + 1, 0 => by
    have h := C_absorb n 0
    rw [C_ss, C_zero] ; rw [C_zero] at h; omega
  | n + 1, k + 1 => by
    have h1 := C_absorb n k
    have h2 := C_absorb n (k + 1)
    rw [C_ss (n + 1) (k + 1)]
    rw [C_ss n k] at h1 ⊢
    grind
theorem C_step (n k : Nat) (h : k ≤ n) : C n (k + 1) * (k + 1) = C n k * (n - k) := by
  have h1 := C_absorb n k
  rw [C_ss] at h1
  obtain ⟨d, rfl⟩ : ∃ d, n = k + d := ⟨n - k, by omega⟩
  rw [Nat.add_sub_cancel_left]
  grind
theorem C_symm : ∀ (n k : Nat), k ≤ n → C n (n - k) = C n k
  | 0, 0, _ => rfl
  | n + 1, 0, _ => by rw [Nat.sub_zero, C_self, C_zero]
  | n + 1, k + 1, h => by
    by_cases e : k = n
    · subst e; rw [Nat.sub_self, C_zero, C_self]
    · have h1 := C_symm n k (by omega)
      have h2 := C_symm n (k + 1) (by omega)
      have e1 : n + 1 - (k + 1) = (n - (k + 1)) + 1 := by omega
      rw [e1, C_ss, C_ss, h2]
      have e2 : n - (k + 1) + 1 = n - k := by omega
      rw [e2, h1]; omega
theorem C_le : ∀ (n k : Nat), C n k ≤ 2 ^ n
  | n, 0 => by rw [C_zero]; exact Nat.one_le_two_pow
  | 0, k + 1 => by rw [C_zs]; omega
  | n + 1, k + 1 => by
    rw [C_ss, Nat.pow_succ]
    cases n with
    | zero => cases k with
      | zero => decide
      | succ k => simp [C]
    | succ m =>
      have h1 := C_le (m+1) k
      have h2 := C_le (m+1) (k + 1)
      omega
theorem C_le40 (n k : Nat) (h : n ≤ 40) : C n k ≤ 1099511627776 := by
  have h1 := C_le n k
  have h2 : 2 ^ n ≤ 2 ^ 40 := Nat.pow_le_pow_right (by omega) h
  omega

theorem Ev.s {α : Type} {g : Nat → Option α} {r : α} (h : Ev (fun k => g (k + 1)) r) : Ev g r := by
  obtain ⟨K, hK⟩ := h
  refine ⟨K + 1, fun k hk => ?_⟩
  obtain ⟨m, rfl⟩ : ∃ m, k = m + 1 := ⟨k - 1, by omega⟩
  exact hK m (by omega)
theorem Ev.c {α : Type} {o : Option α} {r : α} (h : o = some r) : Ev (fun _ => o) r := ⟨0, fun _ _ => h⟩
theorem Ev.u {α : Type} {g : Nat → Option α} {r r' : α} (h : Ev g r) (h' : Ev g r') : r = r' := by
  obtain ⟨K, hK⟩ := h
  obtain ⟨K', hK'⟩ := h'
  have a := hK (max K K') (by omega)
  have b := hK' (max K K') (by omega)
  rw [a] at b
  exact Option.some.inj b
theorem Ev.e {α : Type} {g : Nat → Option α} {r r' : α} (h : Ev g r) (e : r = r') : Ev g r' := e ▸ h
theorem Ev.bs {α β : Type} {g : Nat → Option α} {f : Nat → α → Option β} {a : α} {r : β} (h : Ev g a) (k : Ev (fun n => f n a) r) : Ev (fun n => Option.bind (g n) (f n)) r := Ev.bind h k
theorem w64 {n : Int} (h : -9223372036854775808 ≤ n) (h' : n ≤ 9223372036854775807) : wrap64 n = n := by unfold wrap64; omega
theorem rd_set (l : List Int) (i j : Int) (v : Int) (hi : 0 ≤ i) (hj : 0 ≤ j) (hl : i < (l.length : Int)) : rd (l.set i.toNat v) j = if i = j then v else rd l j := by
  unfold rd
  rw [List.getD_eq_getElem?_getD, List.getD_eq_getElem?_getD, List.getElem?_set]
  by_cases e : i = j
  · subst e; rw [if_pos rfl, if_pos rfl, if_pos (by omega)]; rfl
  · rw [if_neg (by omega), if_neg e]

theorem in_eq (a b c : Int) : impl_in.f a b c = some (decide (b ≤ a ∧ a ≤ c)) := by
  unfold impl_in.f
  by_cases h : b ≤ a
  · rw [if_pos h]; simp [h]
  · rw [if_neg h]; simp [h]
theorem l1In_eq (a b c : Int) : spec_l1In.f a b c = some (decide (b ≤ a ∧ a ≤ c)) := by
  unfold spec_l1In.f
  by_cases h : a ≥ b
  · rw [if_pos h]; simp [h]
  · rw [if_neg h]; simp [h]
theorem choose_l0 (n : Nat) (hn : n ≤ 40) (j : Nat) (hj : j ≤ n) (d : Nat) : ∀ i : Nat, i + d = j →
    Ev (fun k => impl_choose.l0 k (n : Int) (C n i : Int) (j : Int) (i : Int)) (C n j : Int) := by
  induction d with
  | zero =>
    intro i hi
    obtain rfl : i = j := by omega
    refine Ev.s ?_
    simp (disch := omega) only [impl_choose.l0, if_neg]
    exact Ev.now _
  | succ d ih =>
    intro i hi
    refine Ev.s ?_
    have hb := C_le40 n i hn
    have hs := C_step n i (by omega)
    have hm : C n i * (n - i) ≤ 1099511627776 * 40 := Nat.mul_le_mul hb (by omega)
    have e1 : wrap64 ((n : Int) - (i : Int)) = ((n - i : Nat) : Int) := by rw [w64 (by omega) (by omega)]; omega
    have e2 : wrap64 ((i : Int) + 1) = ((i + 1 : Nat) : Int) := by rw [w64 (by omega) (by omega)]; omega
    have e3 : wrap64 ((C n i : Int) * ((n - i : Nat) : Int)) = ((C n (i + 1) * (i + 1) : Nat) : Int) := by
      rw [hs, ← Int.natCast_mul, w64 (by omega) (by omega)]
    have e4 : Int.tdiv ((C n (i + 1) * (i + 1) : Nat) : Int) ((i + 1 : Nat) : Int) = (C n (i + 1) : Int) := by
      rw [Int.natCast_mul]; exact Int.mul_tdiv_cancel _ (by omega)
    have e5 : wrap64 (C n (i + 1) : Int) = (C n (i + 1) : Int) := by
      have := C_le40 n (i + 1) hn
      rw [w64 (by omega) (by omega)]
    have hz : ¬ (((i + 1 : Nat) : Int) = 0) := by omega
    have hlt : (i : Int) < (j : Int) := by omega
    simp only [impl_choose.l0, e1, e2, e3, e4, e5, if_neg hz, if_pos hlt]
    exact ih (i + 1) (by omega)
/-- What `choose` comes to. -/
def Cz (n j : Int) : Int := if 0 ≤ j ∧ j ≤ n then (C n.toNat j.toNat : Int) else 0
theorem Cz_nat (n j : Nat) : Cz (n : Int) (j : Int) = (C n j : Int) := by
  unfold Cz
  by_cases h : j ≤ n
  · rw [if_pos (by omega)]; simp
  · rw [if_neg (by omega), C_lt n j (by omega)]; rfl
theorem Cz_le (n j : Int) (hn : n ≤ 40) : 0 ≤ Cz n j ∧ Cz n j ≤ 1099511627776 := by
  unfold Cz
  split
  · have := C_le40 n.toNat j.toNat (by omega); omega
  · omega
theorem Cz_symm (a b : Int) (ha : 0 ≤ a) (hb : 0 ≤ b) : Cz (a + b) b = Cz (a + b) a := by
  unfold Cz
  rw [if_pos (by omega), if_pos (by omega)]
  have h := C_symm (a + b).toNat a.toNat (by omega)
  rw [show (a + b).toNat - a.toNat = b.toNat from by omega] at h
  rw [h]
theorem choose_ev (n j : Int) (hn : n ≤ 40) : Ev (fun k => impl_choose.f k n j) (Cz n j) := by
  unfold impl_choose.f
  simp only [in_eq, Option.bind_some, decide_eq_true_eq]
  by_cases h : 0 ≤ j ∧ j ≤ n
  · simp only [if_pos h]
    have e := choose_l0 n.toNat (by omega) j.toNat (by omega) j.toNat 0 (by omega)
    rw [C_zero] at e
    have hc : Cz n j = (C n.toNat j.toNat : Int) := by unfold Cz; rw [if_pos h]
    rw [hc]
    simpa [show max n 0 = n from by omega, show max j 0 = j from by omega] using e
  · simp only [if_neg h]
    have hc : Cz n j = 0 := by unfold Cz; rw [if_neg h]
    rw [hc]; exact Ev.now _

theorem l1Least_eq (a b : Int) : spec_l1Least.f a b = some (min a b) := by
  unfold spec_l1Least.f
  by_cases h : a < b
  · rw [if_pos h]; congr 1; omega
  · rw [if_neg h]; congr 1; omega
def PRow (J : Nat) (l : List Int) (i j : Nat) : Prop :=
  l.length = J + 1 ∧ ∀ t : Nat, t ≤ J → rd l (t : Int) = if j < t then (C (i + 1) t : Int) else (C i t : Int)
theorem pa_l1 (n J : Nat) (hn : n ≤ 40) (hJ : J ≤ 40) (i : Nat) (hi : i < n) (j : Nat) : ∀ (l : List Int), j ≤ J → PRow J l i j →
    ∃ l', PRow J l' i 0 ∧ ∀ r, Ev (fun k => spec_paChoose.l0 k (n : Int) (J : Int) l' ((i + 2 : Nat) : Int)) r → Ev (fun k => spec_paChoose.l1 k (n : Int) (J : Int) l ((i + 1 : Nat) : Int) (j : Int)) r := by
  induction j with
  | zero =>
    intro l _ hl
    refine ⟨l, hl, fun r h => ?_⟩
    refine Ev.s ?_
    have e : wrap64 (((i + 1 : Nat) : Int) + 1) = ((i + 2 : Nat) : Int) := by rw [w64 (by omega) (by omega)]; omega
    have hz : ¬ (((0 : Nat) : Int) > 0) := by omega
    simp only [spec_paChoose.l1, if_neg hz, e]
    exact h
  | succ j ih =>
    intro l hj hl
    obtain ⟨hlen, hl⟩ := hl
    have a1 := hl (j + 1) hj
    have a2 := hl j (by omega)
    rw [if_neg (by omega)] at a1 a2
    have b1 := C_le40 i (j + 1) (by omega)
    have b2 := C_le40 i j (by omega)
    have e1 : wrap64 (((j + 1 : Nat) : Int) - 1) = (j : Int) := by rw [w64 (by omega) (by omega)]; omega
    have e2 : wrap64 ((C i (j + 1) : Int) + (C i j : Int)) = (C (i + 1) (j + 1) : Int) := by rw [w64 (by omega) (by omega), C_ss]; omega
    obtain ⟨l', h', hr⟩ := ih (l.set ((j + 1 : Nat) : Int).toNat (C (i + 1) (j + 1) : Int)) (by omega) (by
      refine ⟨by simpa using hlen, fun t ht => ?_⟩
      rw [rd_set _ _ _ _ (by omega) (by omega) (by omega)]
      by_cases e : ((j + 1 : Nat) : Int) = (t : Int)
      · have : t = j + 1 := by omega
        subst this
        rw [if_pos rfl, if_pos (by omega)]
      · rw [if_neg e, hl t ht]
        by_cases c : j < t
        · rw [if_pos c, if_pos (by omega)]
        · rw [if_neg c, if_neg (by omega)])
    refine ⟨l', h', fun r h => ?_⟩
    refine Ev.s ?_
    have c1 : ((j + 1 : Nat) : Int) > 0 := by omega
    have c2 : (0 : Int) ≤ ((j + 1 : Nat) : Int) := by omega
    have c3 : ((j + 1 : Nat) : Int) < (l.length : Int) := by omega
    have c4 : (0 : Int) ≤ (j : Int) := by omega
    have c5 : (j : Int) < (l.length : Int) := by omega
    simp only [spec_paChoose.l1, e1, a1, a2, e2, if_pos c1, if_pos c2, if_pos c3, if_pos c4, if_pos c5]
    exact hr r h
theorem pa_l0 (n J : Nat) (hn : n ≤ 40) (hJ : J ≤ 40) (d : Nat) : ∀ (i : Nat) (l : List Int), i + d = n → PRow J l i J →
    Ev (fun k => spec_paChoose.l0 k (n : Int) (J : Int) l ((i + 1 : Nat) : Int)) (C n J : Int) := by
  induction d with
  | zero =>
    intro i l hi hl
    obtain rfl : i = n := by omega
    obtain ⟨hlen, hl⟩ := hl
    have a := hl J (Nat.le_refl _)
    rw [if_neg (by omega)] at a
    refine Ev.s ?_
    have c1 : ¬ (((i + 1 : Nat) : Int) ≤ (i : Int)) := by omega
    have c2 : (0 : Int) ≤ (J : Int) := by omega
    have c3 : (J : Int) < (l.length : Int) := by omega
    simp only [spec_paChoose.l0, if_neg c1, if_pos c2, if_pos c3, a]
    exact Ev.now _
  | succ d ih =>
    intro i l hi hl
    have hmin : min (((i + 1 : Nat) : Int)) (J : Int) = ((min (i + 1) J : Nat) : Int) := by omega
    have hl2 : PRow J l i (min (i + 1) J) := by
      refine ⟨hl.1, fun t ht => ?_⟩
      have := hl.2 t ht
      rw [if_neg (by omega)] at this
      by_cases c : min (i + 1) J < t
      · rw [if_pos c, this, C_lt i t (by omega), C_lt (i + 1) t (by omega)]
      · rw [if_neg c, this]
    obtain ⟨l', h', hr⟩ := pa_l1 n J hn hJ i (by omega) (min (i + 1) J) l (by omega) hl2
    refine Ev.s ?_
    have c1 : (((i + 1 : Nat) : Int) ≤ (n : Int)) := by omega
    simp only [spec_paChoose.l0, if_pos c1, l1Least_eq, Option.bind_some, hmin]
    refine hr _ (ih (i + 1) l' (by omega) ⟨h'.1, fun t ht => ?_⟩)
    have := h'.2 t ht
    rw [if_neg (by omega), this]
    by_cases c : 0 < t
    · rw [if_pos c]
    · rw [if_neg c]; obtain rfl : t = 0 := by omega
      rw [C_zero, C_zero]
theorem paChoose_ev (n j : Int) (hn : n ≤ 40) : Ev (fun k => spec_paChoose.f k n j) (Cz n j) := by
  unfold spec_paChoose.f
  by_cases h0 : j < 0
  · simp only [if_pos h0]
    refine Ev.s ?_
    simp only [spec_paChoose.j0, if_true]
    have : Cz n j = 0 := by unfold Cz; rw [if_neg (by omega)]
    rw [this]; exact Ev.now _
  · simp only [if_neg h0]
    refine Ev.s ?_
    by_cases h1 : j > n
    · simp only [spec_paChoose.j0, decide_eq_true h1, if_true]
      have : Cz n j = 0 := by unfold Cz; rw [if_neg (by omega)]
      rw [this]; exact Ev.now _
    · have e1 : wrap64 (j + 1) = j + 1 := by rw [w64 (by omega) (by omega)]
      obtain ⟨J, rfl⟩ : ∃ J : Nat, j = (J : Int) := ⟨j.toNat, by omega⟩
      obtain ⟨N, rfl⟩ : ∃ N : Nat, n = (N : Int) := ⟨n.toNat, by omega⟩
      have e2 : ((J : Int) + 1).toNat = J + 1 := by omega
      have c1 : (0 : Int) ≤ (J : Int) + 1 := by omega
      have c2 : J + 1 ≤ 35184372088832 := by omega
      have c3 : (0 : Int) < ((List.replicate (J + 1) (0 : Int)).length : Int) := by rw [List.length_replicate]; omega
      have hb : decide ((J : Int) > (N : Int)) = false := decide_eq_false h1
      simp only [spec_paChoose.j0, hb, e1, e2, if_pos c1, if_pos c2, Option.bind_some, if_pos c3, Bool.false_eq_true, if_false]
      rw [Cz_nat]
      refine pa_l0 N J (by omega) (by omega) N 0 _ (by omega) ⟨by simp, fun t ht => ?_⟩
      have h0 : ¬ (J < t) := by omega
      have hr : ∀ u : Nat, rd (List.replicate (J + 1) (0 : Int)) (u : Int) = 0 := by
        intro u
        unfold rd
        rw [List.getD_eq_getElem?_getD, List.getElem?_replicate]
        split <;> rfl
      rw [rd_set _ _ _ _ (by omega) (by omega) c3]
      simp only [if_neg h0]
      by_cases e : (0 : Int) = (t : Int)
      · obtain rfl : t = 0 := by omega
        simp [C_zero]
      · obtain ⟨s, rfl⟩ : ∃ s, t = s + 1 := ⟨t - 1, by omega⟩
        simp only [if_neg e, C_zs]
        exact hr _

def Steps (a b : Int) : Prop := (0 ≤ a ∧ a ≤ 40) ∧ (0 ≤ b ∧ b ≤ 40) ∧ a + b ≤ 40
instance (a b : Int) : Decidable (Steps a b) := by unfold Steps; infer_instance
theorem paSteps_eq (a b : Int) : spec_paSteps.f a b = some (decide (Steps a b)) := by
  unfold spec_paSteps.f Steps
  simp only [l1In_eq, Option.bind_some, decide_eq_true_eq]
  by_cases ha : 0 ≤ a ∧ a ≤ 40
  · by_cases hb : 0 ≤ b ∧ b ≤ 40
    · rw [w64 (by omega) (by omega)]; simp [ha, hb]
    · simp [ha, hb]
  · simp [ha]
theorem areSteps_eq (a b : Int) : impl_areSteps.f a b = some (decide (Steps a b)) := by
  unfold impl_areSteps.f Steps
  simp only [in_eq, Option.bind_some, decide_eq_true_eq]
  by_cases ha : 0 ≤ a ∧ a ≤ 40
  · by_cases hb : 0 ≤ b ∧ b ≤ 40
    · rw [w64 (by omega) (by omega)]; simp [ha, hb]
    · simp [ha, hb]
  · simp [ha]

/-- The text of a rank, n steps being left. -/
def tb (F : Int → Int → Int) : Nat → Int → Int → Int → List Int → List Int
  | 0, _, _, _, out => out
  | n + 1, u, d, r, out => if r < F u (d + 1) then tb F n u (d + 1) r (out ++ [68]) else tb F n (u + 1) d (r - F u (d + 1)) (out ++ [85])

theorem strOf_snoc (xs : List Int) (c : Int) (u : UInt8) (h : strOfNums [c] = ⟨#[u]⟩) : strOfNums (xs ++ [c]) = strOfNums xs ++ (⟨#[u]⟩ : ByteArray) := by
  have e : ∀ (a b : List Int), (strOfNums (a ++ b)).data = (strOfNums a).data ++ (strOfNums b).data := by
    intro a b
    unfold strOfNums
    simp
  apply ByteArray.ext
  rw [e, h]
  simp [ByteArray.data_append]
theorem strOf_D (xs : List Int) : strOfNums (xs ++ [68]) = strOfNums xs ++ (⟨#[68]⟩ : ByteArray) := strOf_snoc xs 68 68 rfl
theorem strOf_U (xs : List Int) : strOfNums (xs ++ [85]) = strOfNums xs ++ (⟨#[85]⟩ : ByteArray) := strOf_snoc xs 85 85 rfl
theorem strOf_len (xs : List Int) : (strOfNums xs).size = xs.length := by
  unfold strOfNums
  simp [ByteArray.size]

/-- What freely's closure answers. -/
def Fr (a b u d : Int) : Int := if u > a then 0 else if d > b then 0 else Cz (a - u + (b - d)) (a - u)
theorem freely_F (a b u d : Int) (ha : 0 ≤ a ∧ a ≤ 40) (_hb : 0 ≤ b ∧ b ≤ 40) (hab : a + b ≤ 40) (hu : 0 ≤ u ∧ u ≤ 100) (hd : 0 ≤ d ∧ d ≤ 100) : Ev (fun k => @impl_freely_1.f ⟨a, b⟩ k u d) (Fr a b u d) := by
  unfold impl_freely_1.f Fr
  by_cases c1 : u > a
  · simp only [if_pos c1]; exact Ev.now _
  · by_cases c2 : d > b
    · simp only [if_neg c1, if_pos c2]; exact Ev.now _
    · simp only [if_neg c1, if_neg c2]
      rw [w64 (n := a - u) (by omega) (by omega), w64 (n := a - u + b) (by omega) (by omega), w64 (n := a - u + b - d) (by omega) (by omega), show a - u + b - d = a - u + (b - d) from by omega]
      exact choose_ev _ _ (by omega)
theorem Fr_le (a b u d : Int) (hab : a + b ≤ 40) (hu : 0 ≤ u) (hd : 0 ≤ d) : 0 ≤ Fr a b u d ∧ Fr a b u d ≤ 1099511627776 := by
  unfold Fr
  split
  · omega
  · split
    · omega
    · exact Cz_le _ _ (by omega)
theorem textBy_tb (a b : Int) (ha : 0 ≤ a ∧ a ≤ 40) (hb : 0 ≤ b ∧ b ≤ 40) (hab : a + b ≤ 40) : ∀ (n : Nat) (u d r : Int) (out : List Int), 0 ≤ u → 0 ≤ d → u + d + n = a + b → (out.length : Int) = u + d → 0 ≤ r → r ≤ 1099511627776 →
    Ev (fun k => @impl_textBy.l0 ⟨a, b⟩ k r out u d (a + b) (u + d)) (strOfNums (tb (Fr a b) n u d r out), true)
  | 0, u, d, r, out, hu, hd, hn, hl, h0, hr => by
    refine Ev.s ?_
    simp only [impl_textBy.l0, if_neg (show ¬ u + d < a + b by omega)]
    exact Ev.now _
  | n + 1, u, d, r, out, hu, hd, hn, hl, h0, hr => by
    refine Ev.s ?_
    simp only [impl_textBy.l0, if_pos (show u + d < a + b by omega)]
    have hf := Fr_le a b u (d + 1) hab hu (by omega)
    rw [w64 (n := d + 1) (by omega) (by omega), w64 (n := u + 1) (by omega) (by omega), w64 (n := u + d + 1) (by omega) (by omega)]
    refine Ev.bs (freely_F a b u (d + 1) ha hb hab (by omega) (by omega)) ?_
    rw [tb]
    by_cases c : r < Fr a b u (d + 1)
    · simp only [if_pos c, if_pos (show out.length < 140737488355328 by omega)]
      have := textBy_tb a b ha hb hab n u (d + 1) r (out ++ [68]) hu (by omega) (by omega) (by rw [List.length_append, List.length_singleton]; omega) h0 hr
      rw [show u + (d + 1) = u + d + 1 from by omega] at this
      exact this
    · simp only [if_neg c, if_pos (show out.length < 140737488355328 by omega)]
      have := textBy_tb a b ha hb hab n (u + 1) d (r - Fr a b u (d + 1)) (out ++ [85]) (by omega) hd (by omega) (by rw [List.length_append, List.length_singleton]; omega) (by omega) (by omega)
      rw [show u + 1 + d = u + d + 1 from by omega] at this
      rw [w64 (n := r - Fr a b u (d + 1)) (by omega) (by omega)]
      exact this
theorem spec_tb (a b : Int) (ha : 0 ≤ a ∧ a ≤ 40) (hb : 0 ≤ b ∧ b ≤ 40) (hab : a + b ≤ 40) : ∀ (n : Nat) (u d r : Int) (out : List Int), 0 ≤ u → 0 ≤ d → u + d + n = a + b → (out.length : Int) = u + d → 0 ≤ r → r ≤ 1099511627776 →
    Ev (fun k => spec_PathOfRank.l0 k (a - u) (b - d) r (strOfNums out)) (strOfNums (tb (Fr a b) n u d r out), true)
  | 0, u, d, r, out, hu, hd, hn, hl, h0, hr => by
    refine Ev.s ?_
    simp only [spec_PathOfRank.l0]
    rw [w64 (n := a - u + (b - d)) (by omega) (by omega)]
    simp only [if_neg (show ¬ a - u + (b - d) > 0 by omega)]
    exact Ev.now _
  | n + 1, u, d, r, out, hu, hd, hn, hl, h0, hr => by
    refine Ev.s ?_
    simp only [spec_PathOfRank.l0]
    have hf := Fr_le a b u (d + 1) hab hu (by omega)
    have hsz := strOf_len out
    rw [w64 (n := a - u + (b - d)) (by omega) (by omega), w64 (n := b - d - 1) (by omega) (by omega), w64 (n := a - u - 1) (by omega) (by omega), w64 (n := a - u + (b - d) - 1) (by omega) (by omega)]
    simp only [if_pos (show a - u + (b - d) > 0 by omega), if_pos (show (strOfNums out).size + 1 ≤ 9223372036854775807 by omega), ← strOf_D, ← strOf_U]
    rw [tb]
    have hD := spec_tb a b ha hb hab n u (d + 1) r (out ++ [68]) hu (by omega) (by omega) (by rw [List.length_append, List.length_singleton]; omega) h0 hr
    rw [show b - (d + 1) = b - d - 1 from by omega] at hD
    by_cases c1 : b - d > 0
    · simp only [if_pos c1]
      have hv : Cz (a - u + (b - d) - 1) (a - u) = Fr a b u (d + 1) := by
        unfold Fr
        by_cases c2 : u > a
        · rw [if_pos c2]; unfold Cz; rw [if_neg (by omega)]
        · rw [if_neg c2, if_neg (by omega), show a - u + (b - (d + 1)) = a - u + (b - d) - 1 from by omega]
      refine Ev.bs (paChoose_ev _ _ (by omega)) ?_
      rw [hv]
      by_cases c : r < Fr a b u (d + 1)
      · simp only [if_pos c]; exact hD
      · simp only [if_neg c]
        have := spec_tb a b ha hb hab n (u + 1) d (r - Fr a b u (d + 1)) (out ++ [85]) (by omega) hd (by omega) (by rw [List.length_append, List.length_singleton]; omega) (by omega) (by omega)
        rw [show a - (u + 1) = a - u - 1 from by omega] at this
        rw [w64 (n := r - Fr a b u (d + 1)) (by omega) (by omega)]
        exact this
    · have hz : Fr a b u (d + 1) = 0 := by
        unfold Fr
        split
        · rfl
        · rw [if_pos (by omega)]
      rw [hz]
      have := spec_tb a b ha hb hab n (u + 1) d (r - 0) (out ++ [85]) (by omega) hd (by omega) (by rw [List.length_append, List.length_singleton]; omega) (by omega) (by omega)
      rw [show a - (u + 1) = a - u - 1 from by omega] at this
      simp only [if_neg c1, if_neg (show ¬ r < 0 by omega)]
      rw [w64 (n := r - 0) (by omega) (by omega)]
      exact this
theorem FnExactPathOfRank : laws_FnExactPathOfRank.Pure := by
  intro a b r _ _ _
  refine Ev.rounds ?_
  unfold laws_FnExactPathOfRank.f spec_PathOfRank.f impl_PathOfRank.f
  simp only [paSteps_eq, areSteps_eq, l1In_eq, Option.bind_some, decide_eq_true_eq]
  by_cases h1 : Steps a b
  · simp only [if_pos h1]
    have ⟨ha, hb, hab⟩ := h1
    have e0 : Fr a b 0 0 = Cz (a + b) a := by
      unfold Fr
      rw [if_neg (by omega), if_neg (by omega)]
      congr 1 <;> omega
    have hz := Cz_le (a + b) a hab
    rw [w64 (n := a + b) (by omega) (by omega)]
    by_cases h2 : 0 ≤ r ∧ r ≤ Cz (a + b) a - 1
    · refine Ev.bs (a := (strOfNums (tb (Fr a b) (a + b).toNat 0 0 r []), true)) ?_ (Ev.bs (a := (strOfNums (tb (Fr a b) (a + b).toNat 0 0 r []), true)) ?_ (Ev.c (by simp)))
      · refine Ev.bs (paChoose_ev _ _ hab) ?_
        rw [w64 (n := Cz (a + b) a - 1) (by omega) (by omega)]
        simp only [decide_eq_true h2, Bool.not_true]
        refine Ev.s ?_
        simp only [spec_PathOfRank.j0, Bool.false_eq_true, if_false]
        have := spec_tb a b ha hb hab (a + b).toNat 0 0 r [] (by omega) (by omega) (by omega) rfl (by omega) (by omega)
        rw [show a - 0 = a from by omega, show b - 0 = b from by omega] at this
        exact this
      · unfold impl_textBy.f
        refine Ev.bs (freely_F a b 0 0 ha hb hab (by omega) (by omega)) ?_
        rw [e0, w64 (n := Cz (a + b) a - 1) (by omega) (by omega)]
        simp only [in_eq, Option.bind_some, decide_eq_true h2, if_true]
        exact textBy_tb a b ha hb hab (a + b).toNat 0 0 r [] (by omega) (by omega) (by omega) rfl (by omega) (by omega)
    · refine Ev.bs (a := (⟨#[]⟩, false)) ?_ (Ev.bs (a := (⟨#[]⟩, false)) ?_ (Ev.c (by simp)))
      · refine Ev.bs (paChoose_ev _ _ hab) ?_
        rw [w64 (n := Cz (a + b) a - 1) (by omega) (by omega)]
        simp only [decide_eq_false h2, Bool.not_false]
        refine Ev.s ?_
        simp only [spec_PathOfRank.j0, if_true]
        exact Ev.now _
      · unfold impl_textBy.f
        refine Ev.bs (freely_F a b 0 0 ha hb hab (by omega) (by omega)) ?_
        rw [e0, w64 (n := Cz (a + b) a - 1) (by omega) (by omega)]
        simp only [in_eq, Option.bind_some, decide_eq_false h2, Bool.false_eq_true, if_false]
        exact Ev.now _
  · simp only [if_neg h1]
    refine Ev.bs (a := (⟨#[]⟩, false)) (Ev.s ?_) (Ev.c (by simp))
    simp only [spec_PathOfRank.j0, if_true]
    exact Ev.now _

end Go.Proofs.Ytblofikjcmjaeaa.Pure
