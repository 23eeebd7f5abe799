/- The plain law of the statement FnExactRankOfTree: what the program's function computes is what the reference's computes, for all arguments; no condition. -/
import Derived.Test.YtblofikjcmjaeaaPFnExactRankOfTreex5
namespace Go.Proofs.Ytblofikjcmjaeaa.Pure
open Go.RowKit Go.Proofs.Ytblofikjcmjaeaa.PFnExactRankOfTree Go.Proofs.YtblofikjcmjaeaaW.PrintWords Go.Proofs.YtblofikjcmjaeaaW.PrintLast Go.Proofs.YtblofikjcmjaeaaW.PrintMore

def C : Nat → Nat → Nat
  | _, 0 => 1
  | 0, _ + 1 => 0
  | n + 1, k + 1 => C n k + C n (k + 1)
theorem C_zero (n : Nat) : C n 0 = 1 := by cases n <;> rfl
theorem C_zs (k : Nat) : C 0 (k + 1) = 0 := rfl
theorem C_ss (n k : Nat) : C (n + 1) (k + 1) = C n k + C n (k + 1) := rfl
theorem C_lt : ∀ (n k : Nat), n < k → C n k = 0
  | 0, k + 1, _ => rfl
  | n + 1, k + 1, h => by rw [C_ss, C_lt n k (by omega), C_lt n (k + 1) (by omega)]
theorem C_self : ∀ n : Nat, C n n = 1
  | 0 => rfl
  | n + 1 => by rw [C_ss, C_self n, C_lt n (n + 1) (by omega)]
theorem C_pos : ∀ (n k : Nat), k ≤ n → 1 ≤ C n k
  | n, 0, _ => by rw [C_zero]; omega
  | n + 1, k + 1, h => by rw [C_ss]; have := C_pos n k (by omega); omega
theorem C_absorb : ∀ (n k : Nat), C (n + 1) (k + 1) * (k + 1) = (n + 1) * C n k
  | 0, 0 => rfl
  | 0, k + 1 => by rw [C_lt 1 (k + 2) (by omega), C_lt 0 (k + 1) (by omega)]; omega
  | n + 1, 0 => by
    have h := C_absorb n 0
    rw [C_ss, C_zero] ; rw [C_zero] at h; omega
  | n + 1, k + 1 => by
    have h1 := C_absorb n k
    have h2 := C_absorb n (k + 1)
    rw [C_ss (n + 1) (k + 1)]
    rw [C_ss n k] at h1 ⊢
    grind
theorem C_step (n k : Nat) (h : k ≤ n) : C n (k + 1) * (k + 1) = C n k * (n - k) := by
  have h1 := C_absorb n k
  rw [C_ss] at h1
  obtain ⟨d, rfl⟩ : ∃ d, n = k + d := ⟨n - k, by omega⟩
  rw [Nat.add_sub_cancel_left]
  grind
theorem C_symm : ∀ (n k : Nat), k ≤ n → C n (n - k) = C n k
  | 0, 0, _ => rfl
  | n + 1, 0, _ => by rw [Nat.sub_zero, C_self, C_zero]
  | n + 1, k + 1, h => by
    by_cases e : k = n
    · subst e; rw [Nat.sub_self, C_zero, C_self]
    · have h1 := C_symm n k (by omega)
      have h2 := C_symm n (k + 1) (by omega)
      have e1 : n + 1 - (k + 1) = (n - (k + 1)) + 1 := by omega
      rw [e1, C_ss, C_ss, h2]
      have e2 : n - (k + 1) + 1 = n - k := by omega
      rw [e2, h1]; omega
theorem C_le : ∀ (n k : Nat), C n k ≤ 2 ^ n
  | n, 0 => by rw [C_zero]; exact Nat.one_le_two_pow
  | 0, k + 1 => by rw [C_zs]; omega
  | n + 1, k + 1 => by
    rw [C_ss, Nat.pow_succ]
    cases n with
    | zero => cases k with
      | zero => decide
      | succ k => simp [C]
    | succ m =>
      have h1 := C_le (m+1) k
      have h2 := C_le (m+1) (k + 1)
      omega
theorem C_le40 (n k : Nat) (h : n ≤ 40) : C n k ≤ 1099511627776 := by
  have h1 := C_le n k
  have h2 : 2 ^ n ≤ 2 ^ 40 := Nat.pow_le_pow_right (by omega) h
  omega

theorem Ev.s {α : Type} {g : Nat → Option α} {r : α} (h : Ev (fun k => g (k + 1)) r) : Ev g r := by
  obtain ⟨K, hK⟩ := h
  refine ⟨K + 1, fun k hk => ?_⟩
  obtain ⟨m, rfl⟩ : ∃ m, k = m + 1 := ⟨k - 1, by omega⟩
  exact hK m (by omega)
theorem Ev.c {α : Type} {o : Option α} {r : α} (h : o = some r) : Ev (fun _ => o) r := ⟨0, fun _ _ => h⟩
theorem Ev.u {α : Type} {g : Nat → Option α} {r r' : α} (h : Ev g r) (h' : Ev g r') : r = r' := by
  obtain ⟨K, hK⟩ := h
  obtain ⟨K', hK'⟩ := h'
  have a := hK (max K K') (by omega)
  have b := hK' (max K K') (by omega)
  rw [a] at b
  exact Option.some.inj b
theorem Ev.e {α : Type} {g : Nat → Option α} {r r' : α} (h : Ev g r) (e : r = r') : Ev g r' := e ▸ h
theorem Ev.bs {α β : Type} {g : Nat → Option α} {f : Nat → α → Option β} {a : α} {r : β} (h : Ev g a) (k : Ev (fun n => f n a) r) : Ev (fun n => Option.bind (g n) (f n)) r := Ev.bind h k
theorem w64 {n : Int} (h : -9223372036854775808 ≤ n) (h' : n ≤ 9223372036854775807) : wrap64 n = n := by unfold wrap64; omega
theorem rd_set (l : List Int) (i j : Int) (v : Int) (hi : 0 ≤ i) (hj : 0 ≤ j) (hl : i < (l.length : Int)) : rd (l.set i.toNat v) j = if i = j then v else rd l j := by
  unfold rd
  rw [List.getD_eq_getElem?_getD, List.getD_eq_getElem?_getD, List.getElem?_set]
  by_cases e : i = j
  · subst e; rw [if_pos rfl, if_pos rfl, if_pos (by omega)]; rfl
  · rw [if_neg (by omega), if_neg e]

def Cz (n j : Int) : Int := if 0 ≤ j ∧ j ≤ n then (C n.toNat j.toNat : Int) else 0
theorem Cz_nat (n j : Nat) : Cz (n : Int) (j : Int) = (C n j : Int) := by
  unfold Cz
  by_cases h : j ≤ n
  · rw [if_pos (by omega)]; simp
  · rw [if_neg (by omega), C_lt n j (by omega)]; rfl
theorem Cz_le (n j : Int) (hn : n ≤ 40) : 0 ≤ Cz n j ∧ Cz n j ≤ 1099511627776 := by
  unfold Cz
  split
  · have := C_le40 n.toNat j.toNat (by omega); omega
  · omega
theorem Cz_symm (a b : Int) (ha : 0 ≤ a) (hb : 0 ≤ b) : Cz (a + b) b = Cz (a + b) a := by
  unfold Cz
  rw [if_pos (by omega), if_pos (by omega)]
  have h := C_symm (a + b).toNat a.toNat (by omega)
  rw [show (a + b).toNat - a.toNat = b.toNat from by omega] at h
  rw [h]

theorem l1Least_eq (a b : Int) : spec_l1Least.f a b = some (min a b) := by
  unfold spec_l1Least.f
  by_cases h : a < b
  · rw [if_pos h]; congr 1; omega
  · rw [if_neg h]; congr 1; omega
def PRow (J : Nat) (l : List Int) (i j : Nat) : Prop :=
  l.length = J + 1 ∧ ∀ t : Nat, t ≤ J → rd l (t : Int) = if j < t then (C (i + 1) t : Int) else (C i t : Int)
theorem pa_l1 (n J : Nat) (hn : n ≤ 40) (hJ : J ≤ 40) (i : Nat) (hi : i < n) (j : Nat) : ∀ (l : List Int), j ≤ J → PRow J l i j →
    ∃ l', PRow J l' i 0 ∧ ∀ r, Ev (fun k => spec_paChoose.l0 k (n : Int) (J : Int) l' ((i + 2 : Nat) : Int)) r → Ev (fun k => spec_paChoose.l1 k (n : Int) (J : Int) l ((i + 1 : Nat) : Int) (j : Int)) r := by
  induction j with
  | zero =>
    intro l _ hl
    refine ⟨l, hl, fun r h => ?_⟩
    refine Ev.s ?_
    have e : wrap64 (((i + 1 : Nat) : Int) + 1) = ((i + 2 : Nat) : Int) := by rw [w64 (by omega) (by omega)]; omega
    have hz : ¬ (((0 : Nat) : Int) > 0) := by omega
    simp only [spec_paChoose.l1, if_neg hz, e]
    exact h
  | succ j ih =>
    intro l hj hl
    obtain ⟨hlen, hl⟩ := hl
    have a1 := hl (j + 1) hj
    have a2 := hl j (by omega)
    rw [if_neg (by omega)] at a1 a2
    have b1 := C_le40 i (j + 1) (by omega)
    have b2 := C_le40 i j (by omega)
    have e1 : wrap64 (((j + 1 : Nat) : Int) - 1) = (j : Int) := by rw [w64 (by omega) (by omega)]; omega
    have e2 : wrap64 ((C i (j + 1) : Int) + (C i j : Int)) = (C (i + 1) (j + 1) : Int) := by rw [w64 (by omega) (by omega), C_ss]; omega
    obtain ⟨l', h', hr⟩ := ih (l.set ((j + 1 : Nat) : Int).toNat (C (i + 1) (j + 1) : Int)) (by omega) (by
      refine ⟨by simpa using hlen, fun t ht => ?_⟩
      rw [rd_set _ _ _ _ (by omega) (by omega) (by omega)]
      by_cases e : ((j + 1 : Nat) : Int) = (t : Int)
      · have : t = j + 1 := by omega
        subst this
        rw [if_pos rfl, if_pos (by omega)]
      · rw [if_neg e, hl t ht]
        by_cases c : j < t
        · rw [if_pos c, if_pos (by omega)]
        · rw [if_neg c, if_neg (by omega)])
    refine ⟨l', h', fun r h => ?_⟩
    refine Ev.s ?_
    have c1 : ((j + 1 : Nat) : Int) > 0 := by omega
    have c2 : (0 : Int) ≤ ((j + 1 : Nat) : Int) := by omega
    have c3 : ((j + 1 : Nat) : Int) < (l.length : Int) := by omega
    have c4 : (0 : Int) ≤ (j : Int) := by omega
    have c5 : (j : Int) < (l.length : Int) := by omega
    simp only [spec_paChoose.l1, e1, a1, a2, e2, if_pos c1, if_pos c2, if_pos c3, if_pos c4, if_pos c5]
    exact hr r h
theorem pa_l0 (n J : Nat) (hn : n ≤ 40) (hJ : J ≤ 40) (d : Nat) : ∀ (i : Nat) (l : List Int), i + d = n → PRow J l i J →
    Ev (fun k => spec_paChoose.l0 k (n : Int) (J : Int) l ((i + 1 : Nat) : Int)) (C n J : Int) := by
  induction d with
  | zero =>
    intro i l hi hl
    obtain rfl : i = n := by omega
    obtain ⟨hlen, hl⟩ := hl
    have a := hl J (Nat.le_refl _)
    rw [if_neg (by omega)] at a
    refine Ev.s ?_
    have c1 : ¬ (((i + 1 : Nat) : Int) ≤ (i : Int)) := by omega
    have c2 : (0 : Int) ≤ (J : Int) := by omega
    have c3 : (J : Int) < (l.length : Int) := by omega
    simp only [spec_paChoose.l0, if_neg c1, if_pos c2, if_pos c3, a]
    exact Ev.now _
  | succ d ih =>
    intro i l hi hl
    have hmin : min (((i + 1 : Nat) : Int)) (J : Int) = ((min (i + 1) J : Nat) : Int) := by omega
    have hl2 : PRow J l i (min (i + 1) J) := by
      refine ⟨hl.1, fun t ht => ?_⟩
      have := hl.2 t ht
      rw [if_neg (by omega)] at this
      by_cases c : min (i + 1) J < t
      · rw [if_pos c, this, C_lt i t (by omega), C_lt (i + 1) t (by omega)]
      · rw [if_neg c, this]
    obtain ⟨l', h', hr⟩ := pa_l1 n J hn hJ i (by omega) (min (i + 1) J) l (by omega) hl2
    refine Ev.s ?_
    have c1 : (((i + 1 : Nat) : Int) ≤ (n : Int)) := by omega
    simp only [spec_paChoose.l0, if_pos c1, l1Least_eq, Option.bind_some, hmin]
    refine hr _ (ih (i + 1) l' (by omega) ⟨h'.1, fun t ht => ?_⟩)
    have := h'.2 t ht
    rw [if_neg (by omega), this]
    by_cases c : 0 < t
    · rw [if_pos c]
    · rw [if_neg c]; obtain rfl : t = 0 := by omega
      rw [C_zero, C_zero]
theorem paChoose_ev (n j : Int) (hn : n ≤ 40) : Ev (fun k => spec_paChoose.f k n j) (Cz n j) := by
  unfold spec_paChoose.f
  by_cases h0 : j < 0
  · simp only [if_pos h0]
    refine Ev.s ?_
    simp only [spec_paChoose.j0, if_true]
    have : Cz n j = 0 := by unfold Cz; rw [if_neg (by omega)]
    rw [this]; exact Ev.now _
  · simp only [if_neg h0]
    refine Ev.s ?_
    by_cases h1 : j > n
    · simp only [spec_paChoose.j0, decide_eq_true h1, if_true]
      have : Cz n j = 0 := by unfold Cz; rw [if_neg (by omega)]
      rw [this]; exact Ev.now _
    · have e1 : wrap64 (j + 1) = j + 1 := by rw [w64 (by omega) (by omega)]
      obtain ⟨J, rfl⟩ : ∃ J : Nat, j = (J : Int) := ⟨j.toNat, by omega⟩
      obtain ⟨N, rfl⟩ : ∃ N : Nat, n = (N : Int) := ⟨n.toNat, by omega⟩
      have e2 : ((J : Int) + 1).toNat = J + 1 := by omega
      have c1 : (0 : Int) ≤ (J : Int) + 1 := by omega
      have c2 : J + 1 ≤ 35184372088832 := by omega
      have c3 : (0 : Int) < ((List.replicate (J + 1) (0 : Int)).length : Int) := by rw [List.length_replicate]; omega
      have hb : decide ((J : Int) > (N : Int)) = false := decide_eq_false h1
      simp only [spec_paChoose.j0, hb, e1, e2, if_pos c1, if_pos c2, Option.bind_some, if_pos c3, Bool.false_eq_true, if_false]
      rw [Cz_nat]
      refine pa_l0 N J (by omega) (by omega) N 0 _ (by omega) ⟨by simp, fun t ht => ?_⟩
      have h0 : ¬ (J < t) := by omega
      have hr : ∀ u : Nat, rd (List.replicate (J + 1) (0 : Int)) (u : Int) = 0 := by
        intro u
        unfold rd
        rw [List.getD_eq_getElem?_getD, List.getElem?_replicate]
        split <;> rfl
      rw [rd_set _ _ _ _ (by omega) (by omega) c3]
      simp only [if_neg h0]
      by_cases e : (0 : Int) = (t : Int)
      · obtain rfl : t = 0 := by omega
        simp [C_zero]
      · obtain ⟨s, rfl⟩ : ∃ s, t = s + 1 := ⟨t - 1, by omega⟩
        simp only [if_neg e, C_zs]
        exact hr _

theorem in_eq (a b c : Int) : impl_in.f a b c = some (decide (b ≤ a ∧ a ≤ c)) := by
  unfold impl_in.f
  by_cases h : b ≤ a
  · rw [if_pos h]; simp [h]
  · rw [if_neg h]; simp [h]
theorem l1In_eq (a b c : Int) : spec_l1In.f a b c = some (decide (b ≤ a ∧ a ≤ c)) := by
  unfold spec_l1In.f
  by_cases h : a ≥ b
  · rw [if_pos h]; simp [h]
  · rw [if_neg h]; simp [h]

theorem drop_rd (l : List Int) (i : Nat) (h : i < l.length) : l.drop i = rd l (i : Int) :: l.drop (i + 1) := by
  rw [List.drop_eq_getElem_cons h]
  unfold rd
  rw [Int.toNat_natCast, List.getD_eq_getElem?_getD, List.getElem?_eq_getElem h]
  rfl
theorem rd_get (l : List Int) (i : Nat) (h : i < l.length) : rd l (i : Int) = l[i] := by
  unfold rd
  rw [Int.toNat_natCast, List.getD_eq_getElem?_getD, List.getElem?_eq_getElem h]
  rfl
theorem wsucc (i n : Nat) (h : i < n) (hn : n ≤ 9223372036854775807) : wrap64 ((i : Int) + 1) = ((i + 1 : Nat) : Int) := by
  rw [w64 (by omega) (by omega)]; omega
theorem rd_cons_succ (x : Int) (l : List Int) (i : Nat) : rd (x :: l) ((i + 1 : Nat) : Int) = rd l (i : Int) := by
  unfold rd
  simp only [Int.toNat_natCast, List.getD_cons_succ]
theorem rd_cons_zero (x : Int) (l : List Int) : rd (x :: l) 0 = x := rfl

theorem rd_take (l : List Int) (n i : Nat) (h : i < n) : rd (l.take n) (i : Int) = rd l (i : Int) := by
  unfold rd
  rw [Int.toNat_natCast, List.getD_eq_getElem?_getD, List.getD_eq_getElem?_getD, List.getElem?_take_of_lt h]

theorem toIntS_l0 (l : List Int) (hn : l.length ≤ 35184372088832) (d : Nat) : ∀ (i : Nat) (m : List Int), i + d = l.length → m.length = l.length → m.take i = l.take i →
    Ev (fun k => laws_toIntS.l0 k l m (i : Int)) l := by
  induction d with
  | zero =>
    intro i m hi hm ht
    refine Ev.s ?_
    have c : ¬ ((i : Int) < (l.length : Int)) := by omega
    simp only [laws_toIntS.l0, if_neg c]
    rw [List.take_of_length_le (by omega), List.take_of_length_le (by omega)] at ht
    rw [ht]; exact Ev.now _
  | succ d ih =>
    intro i m hi hm ht
    refine Ev.s ?_
    have c1 : ((i : Int) < (l.length : Int)) := by omega
    have c2 : (0 : Int) ≤ (i : Int) := by omega
    have c3 : ((i : Int) < (m.length : Int)) := by omega
    have e := wsucc i l.length (by omega) (by omega)
    simp only [laws_toIntS.l0, if_pos c1, if_pos c2, if_pos c3, e, Int.toNat_natCast]
    refine ih (i + 1) _ (by omega) (by simpa using hm) ?_
    rw [rd_get l i (by omega)]
    rw [List.take_succ_eq_append_getElem (by simp; omega), List.take_set_of_le (by omega), ht, List.take_succ_eq_append_getElem (by omega)]
    simp
theorem toIntS_ev (l : List Int) (hn : l.length ≤ 35184372088832) : Ev (fun k => laws_toIntS.f k l) l := by
  unfold laws_toIntS.f
  have c1 : (0 : Int) ≤ (l.length : Int) := by omega
  have c2 : ((l.length : Int) : Int).toNat ≤ 35184372088832 := by omega
  simp only [if_pos c1, if_pos c2]
  exact toIntS_l0 l hn l.length 0 _ (by omega) (by simp) (by simp)

theorem eqIntS_l0 (l m : List Int) (hl : l.length = m.length) (hn : l.length ≤ 35184372088832) (d : Nat) : ∀ (i : Nat), i + d = l.length →
    Ev (fun k => laws_eqIntS.l0 k l m (i : Int)) (decide (l.drop i = m.drop i)) := by
  induction d with
  | zero =>
    intro i hi
    refine Ev.s ?_
    have c : ¬ ((i : Int) < (l.length : Int)) := by omega
    simp only [laws_eqIntS.l0, if_neg c]
    rw [List.drop_of_length_le (by omega), List.drop_of_length_le (by omega)]
    exact Ev.now _
  | succ d ih =>
    intro i hi
    refine Ev.s ?_
    have c1 : ((i : Int) < (l.length : Int)) := by omega
    have c2 : (0 : Int) ≤ (i : Int) := by omega
    have c3 : ((i : Int) < (m.length : Int)) := by omega
    have e := wsucc i l.length (by omega) (by omega)
    simp only [laws_eqIntS.l0, if_pos c1, if_pos c2, if_pos c3, e]
    rw [drop_rd l i (by omega), drop_rd m i (by omega)]
    by_cases h : rd l (i : Int) = rd m (i : Int)
    · simp only [if_pos h]
      refine Ev.e (ih (i + 1) (by omega)) ?_
      simp [h]
    · simp only [if_neg h]
      have : (decide (rd l (i : Int) :: l.drop (i + 1) = rd m (i : Int) :: m.drop (i + 1))) = false := by
        apply decide_eq_false; intro h'; exact h (List.cons.inj h').1
      rw [this]; exact Ev.now _
theorem eqIntS_ev (l m : List Int) (hn : l.length ≤ 35184372088832) : Ev (fun k => laws_eqIntS.f k l m) (decide (l = m)) := by
  unfold laws_eqIntS.f
  by_cases h : l.length = m.length
  · have c : ((l.length : Int) = (m.length : Int)) := by omega
    simp only [if_pos c]
    exact eqIntS_l0 l m h hn l.length 0 (by omega)
  · have c : ¬ ((l.length : Int) = (m.length : Int)) := by omega
    simp only [if_neg c]
    have : decide (l = m) = false := by apply decide_eq_false; intro e; rw [e] at h; exact h rfl
    rw [this]; exact Ev.now _

/-- Are these degrees? -/
def DegB (l : List Int) : Bool := decide (1 ≤ l.length ∧ l.length ≤ 16) && l.all (fun x => decide (0 ≤ x ∧ x ≤ 16))
theorem l1All_l0 (lo hi : Int) (l : List Int) (hn : l.length ≤ 35184372088832) (d : Nat) : ∀ (i : Nat), i + d = l.length →
    Ev (fun k => spec_l1All.l0 k lo hi l (l.length : Int) (i : Int)) ((l.drop i).all (fun x => decide (lo ≤ x ∧ x ≤ hi))) := by
  induction d with
  | zero =>
    intro i h
    refine Ev.s ?_
    have c : ¬ ((i : Int) < (l.length : Int)) := by omega
    simp only [spec_l1All.l0, if_neg c]
    rw [List.drop_of_length_le (by omega)]
    exact Ev.now _
  | succ d ih =>
    intro i h
    refine Ev.s ?_
    have c1 : ((i : Int) < (l.length : Int)) := by omega
    have c2 : (0 : Int) ≤ (i : Int) := by omega
    have e := wsucc i l.length (by omega) (by omega)
    rw [drop_rd l i (by omega)]
    simp only [spec_l1All.l0, if_pos c1, if_pos c2, e, l1In_eq, Option.bind_some, decide_eq_true_eq, List.all_cons]
    by_cases h' : lo ≤ rd l (i : Int) ∧ rd l (i : Int) ≤ hi
    · simp only [if_pos h', decide_eq_true h', Bool.true_and]
      exact ih (i + 1) (by omega)
    · simp only [if_neg h', decide_eq_false h', Bool.false_and]
      exact Ev.now _
theorem l1All_ev (lo hi : Int) (l : List Int) (hn : l.length ≤ 35184372088832) : Ev (fun k => spec_l1All.f k l lo hi) (l.all (fun x => decide (lo ≤ x ∧ x ≤ hi))) := by
  unfold spec_l1All.f
  exact l1All_l0 lo hi l hn l.length 0 (by omega)
theorem cyGood_ev (l : List Int) (hn : l.length ≤ 35184372088832) : Ev (fun k => spec_cyGood.f k l) (DegB l) := by
  unfold spec_cyGood.f DegB
  simp only [l1In_eq, Option.bind_some, decide_eq_true_eq]
  by_cases h : 1 ≤ l.length ∧ l.length ≤ 16
  · simp only [if_pos (show (1 : Int) ≤ (l.length : Int) ∧ (l.length : Int) ≤ 16 from by omega), decide_eq_true h, Bool.true_and]
    exact Ev.bs (l1All_ev 0 16 l hn) (Ev.now _)
  · simp only [if_neg (show ¬ ((1 : Int) ≤ (l.length : Int) ∧ (l.length : Int) ≤ 16) from by omega), decide_eq_false h, Bool.false_and]
    exact Ev.now _
theorem isDegrees1_eq (x : Int) : impl_IsDegrees_1.f x = some (!decide (0 ≤ x ∧ x ≤ 16)) := by
  unfold impl_IsDegrees_1.f; rw [in_eq]; rfl
theorem indexFunc_l0 (l : List Int) (hn : l.length ≤ 35184372088832) (d : Nat) : ∀ (i : Nat), i + d = l.length →
    ∃ r : Int, Ev (fun k => slices_IndexFunc_int_int.l0 k l (l.length : Int) (i : Int)) r ∧ decide (r ≥ 0) = !(l.drop i).all (fun x => decide (0 ≤ x ∧ x ≤ 16)) := by
  induction d with
  | zero =>
    intro i h
    refine ⟨-1, Ev.s ?_, by rw [List.drop_of_length_le (by omega)]; rfl⟩
    have c : ¬ ((i : Int) < (l.length : Int)) := by omega
    simp only [slices_IndexFunc_int_int.l0, if_neg c]
    exact Ev.now _
  | succ d ih =>
    intro i h
    have c1 : ((i : Int) < (l.length : Int)) := by omega
    have c2 : (0 : Int) ≤ (i : Int) := by omega
    have e := wsucc i l.length (by omega) (by omega)
    rw [drop_rd l i (by omega)]
    by_cases h' : 0 ≤ rd l (i : Int) ∧ rd l (i : Int) ≤ 16
    · obtain ⟨r, hr, hd⟩ := ih (i + 1) (by omega)
      refine ⟨r, Ev.s ?_, by simp only [List.all_cons, decide_eq_true h', Bool.true_and, hd]⟩
      simp only [slices_IndexFunc_int_int.l0, if_pos c1, if_pos c2, e, isDegrees1_eq, Option.bind_some, decide_eq_true h', Bool.not_true, Bool.false_eq_true, if_false]
      exact hr
    · refine ⟨i, Ev.s ?_, by simp only [List.all_cons, decide_eq_false h', Bool.false_and, Bool.not_false]; exact decide_eq_true (by omega)⟩
      simp only [slices_IndexFunc_int_int.l0, if_pos c1, if_pos c2, e, isDegrees1_eq, Option.bind_some, decide_eq_false h', Bool.not_false, if_true]
      exact Ev.now _
theorem isDegrees_ev (l : List Int) (hn : l.length ≤ 35184372088832) : Ev (fun k => impl_IsDegrees.f k l) (DegB l) := by
  unfold impl_IsDegrees.f DegB slices_ContainsFunc_int_int.f slices_IndexFunc_int_int.f
  simp only [in_eq, Option.bind_some, decide_eq_true_eq]
  by_cases h : 1 ≤ l.length ∧ l.length ≤ 16
  · simp only [if_pos (show (1 : Int) ≤ (l.length : Int) ∧ (l.length : Int) ≤ 16 from by omega), decide_eq_true h, Bool.true_and]
    obtain ⟨r, hr, hd⟩ := indexFunc_l0 l hn l.length 0 (by omega)
    rw [List.drop_zero] at hd
    refine Ev.bs (a := decide (r ≥ 0)) (Ev.bs hr (Ev.now _)) (Ev.c ?_)
    rw [hd]; simp
  · simp only [if_neg (show ¬ ((1 : Int) ≤ (l.length : Int) ∧ (l.length : Int) ≤ 16) from by omega), decide_eq_false h, Bool.false_and]
    exact Ev.now _

/-- The excess from a place on. -/
def sumL : List Int → Int
  | [] => 0
  | x :: r => x + sumL r
theorem sumL_append (l m : List Int) : sumL (l ++ m) = sumL l + sumL m := by
  induction l with
  | nil => simp [sumL]
  | cons x r ih => simp only [List.cons_append, sumL, ih]; omega
theorem DegB_iff {l : List Int} (h : DegB l = true) : (1 ≤ l.length ∧ l.length ≤ 16) ∧ ∀ x ∈ l, 0 ≤ x ∧ x ≤ 16 := by
  unfold DegB at h
  simp only [Bool.and_eq_true, decide_eq_true_eq, List.all_eq_true] at h
  exact ⟨h.1, h.2⟩
theorem sumL_bd (l : List Int) (h : ∀ x ∈ l, 0 ≤ x ∧ x ≤ 16) : 0 ≤ sumL l ∧ sumL l ≤ 16 * (l.length : Int) := by
  induction l with
  | nil => simp [sumL]
  | cons x r ih =>
    have := ih (fun y hy => h y (List.mem_cons_of_mem _ hy))
    have hx := h x List.mem_cons_self
    simp only [sumL, List.length_cons]; omega
theorem deg_drop {l : List Int} (h : DegB l = true) (i : Nat) : 0 ≤ sumL (l.drop i) ∧ sumL (l.drop i) ≤ 256 := by
  obtain ⟨h1, h2⟩ := DegB_iff h
  have := sumL_bd (l.drop i) (fun x hx => h2 x (List.mem_of_mem_drop hx))
  rw [List.length_drop] at this
  omega
theorem deg_rd {l : List Int} (h : DegB l = true) (i : Nat) (hi : i < l.length) : 0 ≤ rd l (i : Int) ∧ rd l (i : Int) ≤ 16 := by
  rw [rd_get l i hi]
  exact (DegB_iff h).2 _ (List.getElem_mem _)
/-- The excess of degrees. -/
def Exc (l : List Int) : Int := (l.length : Int) - sumL l
theorem cyExcess_ev (l : List Int) (h : DegB l = true) : Ev (fun k => spec_cyExcess.f k l) (Exc l) := by
  have hl := (DegB_iff h).1
  have key : ∀ (d i : Nat) (x : Int), i + d = l.length → -1000 ≤ x - sumL (l.drop i) ∧ x ≤ 1000 → Ev (fun k => spec_cyExcess.l0 k x l (l.length : Int) (i : Int)) (x - sumL (l.drop i)) := by
    intro d
    induction d with
    | zero =>
      intro i x hi hx
      refine Ev.s ?_
      have c : ¬ ((i : Int) < (l.length : Int)) := by omega
      simp only [spec_cyExcess.l0, if_neg c]
      rw [List.drop_of_length_le (by omega)]
      exact Ev.c (by simp [sumL])
    | succ d ih =>
      intro i x hi hx
      have hr := deg_rd h i (by omega)
      have h0 := deg_drop h (i + 1)
      rw [drop_rd l i (by omega), sumL] at hx ⊢
      refine Ev.s ?_
      have c1 : ((i : Int) < (l.length : Int)) := by omega
      have c2 : (0 : Int) ≤ (i : Int) := by omega
      have e := wsucc i l.length (by omega) (by omega)
      have e2 : wrap64 (x - rd l (i : Int)) = x - rd l (i : Int) := w64 (by omega) (by omega)
      simp only [spec_cyExcess.l0, if_pos c1, if_pos c2, e, e2]
      exact Ev.e (ih (i + 1) (x - rd l (i : Int)) (by omega) (by omega)) (by omega)
  unfold spec_cyExcess.f Exc
  have h0 := deg_drop h 0
  have := key l.length 0 (l.length : Int) (by omega) (by omega)
  rwa [List.drop_zero] at this
theorem excess_ev (l : List Int) (h : DegB l = true) : Ev (fun k => impl_excess.f k l) (Exc l) := by
  have hl := (DegB_iff h).1
  have key : ∀ (d i : Nat) (x : Int), i + d = l.length → -1000 ≤ x - sumL (l.drop i) ∧ x ≤ 1000 → Ev (fun k => impl_excess.l0 k x l (l.length : Int) (i : Int)) (x - sumL (l.drop i)) := by
    intro d
    induction d with
    | zero =>
      intro i x hi hx
      refine Ev.s ?_
      have c : ¬ ((i : Int) < (l.length : Int)) := by omega
      simp only [impl_excess.l0, if_neg c]
      rw [List.drop_of_length_le (by omega)]
      exact Ev.c (by simp [sumL])
    | succ d ih =>
      intro i x hi hx
      have hr := deg_rd h i (by omega)
      have h0 := deg_drop h (i + 1)
      rw [drop_rd l i (by omega), sumL] at hx ⊢
      refine Ev.s ?_
      have c1 : ((i : Int) < (l.length : Int)) := by omega
      have c2 : (0 : Int) ≤ (i : Int) := by omega
      have e := wsucc i l.length (by omega) (by omega)
      have e2 : wrap64 (x - rd l (i : Int)) = x - rd l (i : Int) := w64 (by omega) (by omega)
      simp only [impl_excess.l0, if_pos c1, if_pos c2, e, e2]
      exact Ev.e (ih (i + 1) (x - rd l (i : Int)) (by omega) (by omega)) (by omega)
  unfold impl_excess.f Exc
  have h0 := deg_drop h 0
  have := key l.length 0 (l.length : Int) (by omega) (by omega)
  rwa [List.drop_zero] at this

/-- No sum of the first ones is -r or less. -/
def forB (r : Int) : Int → List Int → Bool
  | _, [] => true
  | s, x :: t => if s + (x - 1) ≤ -r then false else forB r (s + (x - 1)) t
/-- Are degrees a forest? -/
def ForB (l : List Int) : Bool := decide (Exc l ≥ 1) && forB (Exc l) 0 (l.take (l.length - 1))
theorem exc_bd {l : List Int} (h : DegB l = true) : -1000 ≤ Exc l ∧ Exc l ≤ 16 := by
  have h1 := (DegB_iff h).1
  have h0 := deg_drop h 0
  rw [List.drop_zero] at h0
  unfold Exc
  omega
theorem fo_wrap (s x : Int) (i : Nat) (hi : i ≤ 16) (hs : -(i : Int) ≤ s ∧ s ≤ 16 * (i : Int)) (hx : 0 ≤ x ∧ x ≤ 16) : wrap64 (x - 1) = x - 1 ∧ wrap64 (s + (x - 1)) = s + (x - 1) :=
  ⟨w64 (by omega) (by omega), w64 (by omega) (by omega)⟩
theorem fo_inv (s x : Int) (i : Nat) (hs : -(i : Int) ≤ s ∧ s ≤ 16 * (i : Int)) (hx : 0 ≤ x ∧ x ≤ 16) : -((i + 1 : Nat) : Int) ≤ s + (x - 1) ∧ s + (x - 1) ≤ 16 * ((i + 1 : Nat) : Int) := by omega
theorem isForest_ev (l : List Int) (h : DegB l = true) : Ev (fun k => impl_isForest.f k l) (ForB l) := by
  have hl := (DegB_iff h).1
  have hr := exc_bd h
  unfold impl_isForest.f ForB
  refine Ev.bs (excess_ev l h) ?_
  have e1 : wrap64 ((l.length : Int) - 1) = ((l.length - 1 : Nat) : Int) := by rw [w64 (by omega) (by omega)]; omega
  have c1 : (0 : Int) ≤ ((l.length - 1 : Nat) : Int) := by omega
  have c2 : ((l.length - 1 : Nat) : Int) ≤ (l.length : Int) := by omega
  simp only [e1, if_pos c1, if_pos c2, Int.toNat_natCast]
  generalize hr' : Exc l = r at hr
  have hb : ∀ i : Nat, i < (l.take (l.length - 1)).length → 0 ≤ rd (l.take (l.length - 1)) (i : Int) ∧ rd (l.take (l.length - 1)) (i : Int) ≤ 16 := by
    intro i hi
    rw [List.length_take] at hi
    rw [rd_take _ _ _ (by omega)]
    exact deg_rd h i (by omega)
  have hn : (l.take (l.length - 1)).length ≤ 16 := by rw [List.length_take]; omega
  generalize l.take (l.length - 1) = m at hb hn
  clear hr' e1 c1 c2 hl h
  have key : ∀ (d i : Nat) (s : Int), i + d = m.length → -(i : Int) ≤ s ∧ s ≤ 16 * (i : Int) → Ev (fun k => impl_isForest.l0 k r s m (m.length : Int) (i : Int)) (decide (r ≥ 1) && forB r s (m.drop i)) := by
    intro d
    induction d with
    | zero =>
      intro i s hi hs
      refine Ev.s ?_
      have c : ¬ ((i : Int) < (m.length : Int)) := by omega
      simp only [impl_isForest.l0, if_neg c]
      rw [List.drop_of_length_le (by omega)]
      exact Ev.c (by simp [forB])
    | succ d ih =>
      intro i s hi hs
      refine Ev.s ?_
      have hx := hb i (by omega)
      have c1 : ((i : Int) < (m.length : Int)) := by omega
      have c2 : (0 : Int) ≤ (i : Int) := by omega
      have e := wsucc i m.length (by omega) (by omega)
      obtain ⟨w1, w2⟩ := fo_wrap s (rd m (i : Int)) i (by omega) hs hx
      have iv := fo_inv s (rd m (i : Int)) i hs hx
      have w3 : wrap64 (-r) = -r := w64 (by omega) (by omega)
      rw [drop_rd m i (by omega)]
      by_cases t : s + (rd m (i : Int) - 1) ≤ -r
      · simp only [impl_isForest.l0, if_pos c1, if_pos c2, w1, w2, w3, if_pos t, forB, Bool.and_false]
        exact Ev.now _
      · simp only [impl_isForest.l0, if_pos c1, if_pos c2, w1, w2, w3, if_neg t, forB, e]
        exact ih (i + 1) _ (by omega) iv
  have := key m.length 0 0 (by omega) (by omega)
  rwa [List.drop_zero] at this
theorem cyForest_ev (l : List Int) (h : DegB l = true) : Ev (fun k => spec_cyForest.f k l) (ForB l) := by
  have hl := (DegB_iff h).1
  have hr := exc_bd h
  unfold spec_cyForest.f ForB
  refine Ev.bs (cyExcess_ev l h) ?_
  generalize hr' : Exc l = r at hr
  by_cases r1 : r < 1
  · simp only [if_pos r1]
    rw [decide_eq_false (by omega), Bool.false_and]
    exact Ev.now _
  simp only [if_neg r1]
  rw [decide_eq_true (by omega), Bool.true_and]
  have key : ∀ (d i : Nat) (s : Int), i + d = l.length → -(i : Int) ≤ s ∧ s ≤ 16 * (i : Int) → Ev (fun k => spec_cyForest.l0 k l r s l (l.length : Int) (i : Int)) (forB r s ((l.take (l.length - 1)).drop i)) := by
    intro d
    induction d with
    | zero =>
      intro i s hi hs
      refine Ev.s ?_
      have c : ¬ ((i : Int) < (l.length : Int)) := by omega
      simp only [spec_cyForest.l0, if_neg c]
      rw [List.drop_of_length_le (by rw [List.length_take]; omega)]
      exact Ev.now _
    | succ d ih =>
      intro i s hi hs
      refine Ev.s ?_
      have hx := deg_rd h i (by omega)
      have c1 : ((i : Int) < (l.length : Int)) := by omega
      have c2 : (0 : Int) ≤ (i : Int) := by omega
      have e := wsucc i l.length (by omega) (by omega)
      obtain ⟨w1, w2⟩ := fo_wrap s (rd l (i : Int)) i (by omega) hs hx
      have iv := fo_inv s (rd l (i : Int)) i hs hx
      have w3 : wrap64 (-r) = -r := w64 (by omega) (by omega)
      have hi' := ih (i + 1) (s + (rd l (i : Int) - 1)) (by omega) iv
      by_cases last : i + 1 < l.length
      · have c4 : ((i + 1 : Nat) : Int) < (l.length : Int) := by omega
        rw [drop_rd (l.take (l.length - 1)) i (by rw [List.length_take]; omega), rd_take _ _ _ (by omega)]
        by_cases t : s + (rd l (i : Int) - 1) ≤ -r
        · simp only [spec_cyForest.l0, if_pos c1, if_pos c2, w1, w2, w3, if_pos t, e, if_pos c4, forB]
          exact Ev.now _
        · simp only [spec_cyForest.l0, if_pos c1, if_pos c2, w1, w2, w3, if_neg t, e, forB]
          exact hi'
      · have c4 : ¬ ((i + 1 : Nat) : Int) < (l.length : Int) := by omega
        rw [List.drop_of_length_le (by rw [List.length_take]; omega)]
        rw [List.drop_of_length_le (by rw [List.length_take]; omega)] at hi'
        by_cases t : s + (rd l (i : Int) - 1) ≤ -r
        · simp only [spec_cyForest.l0, if_pos c1, if_pos c2, w1, w2, w3, if_pos t, e, if_neg c4]
          exact hi'
        · simp only [spec_cyForest.l0, if_pos c1, if_pos c2, w1, w2, w3, if_neg t, e]
          exact hi'
  have := key l.length 0 0 (by omega) (by omega)
  rwa [List.drop_zero] at this

theorem cyIs_ev (l : List Int) (hn : l.length ≤ 35184372088832) : Ev (fun k => spec_cyIs.f k l) (DegB l && ForB l) := by
  unfold spec_cyIs.f
  refine Ev.bs (cyGood_ev l hn) ?_
  by_cases hd : DegB l = true
  · simp only [hd, Bool.true_and]; exact Ev.bs (cyForest_ev l hd) (Ev.now _)
  · simp only [Bool.not_eq_true _ ▸ hd, Bool.false_and]; exact Ev.now _
theorem areForest_ev (l : List Int) (hn : l.length ≤ 35184372088832) : Ev (fun k => impl_areForest.f k l) (DegB l && ForB l) := by
  unfold impl_areForest.f
  refine Ev.bs (isDegrees_ev l hn) ?_
  by_cases hd : DegB l = true
  · simp only [hd, Bool.true_and]; exact Ev.bs (isForest_ev l hd) (Ev.now _)
  · simp only [Bool.not_eq_true _ ▸ hd, Bool.false_and]; exact Ev.now _

/-- f lo + .. : d terms. -/
def sumUp (f : Nat → Int) : Nat → Nat → Int
  | _, 0 => 0
  | lo, d + 1 => f lo + sumUp f (lo + 1) d
/-- How many lists of n degrees make o trees. -/
def Tn : Nat → Nat → Int
  | 0, o => if o = 0 then 1 else 0
  | n + 1, o => if o = 0 then 0 else sumUp (Tn n) (o - 1) (n + 2 - o)
theorem Tn_far : ∀ (n o : Nat), n < o → Tn n o = 0
  | 0, o, h => by unfold Tn; rw [if_neg (by omega)]
  | n + 1, o, h => by
    unfold Tn
    rw [if_neg (by omega), show n + 2 - o = 0 from by omega]; rfl
theorem Tn_step (n o : Nat) (h : 1 ≤ o ∧ o ≤ n + 1) : Tn (n + 1) o = Tn n (o - 1) + Tn (n + 1) (o + 1) := by
  rw [Tn.eq_2, Tn.eq_2, if_neg (by omega), if_neg (by omega)]
  obtain ⟨d, hd⟩ : ∃ d, n + 2 - o = d + 1 := ⟨n + 1 - o, by omega⟩
  rw [hd, show n + 2 - (o + 1) = d from by omega, show o + 1 - 1 = o - 1 + 1 from by omega]
  rfl
theorem Tn_closed : ∀ (n o : Nat), o ≤ n → ((2 * n - o : Nat) : Int) * Tn n o = (o : Int) * (C (2 * n - o) n : Int) := by
  intro n
  induction n with
  | zero =>
    intro o h
    obtain rfl : o = 0 := by omega
    simp
  | succ n ih =>
    intro o h
    obtain ⟨d, hd⟩ : ∃ d, o + d = n + 1 := ⟨n + 1 - o, by omega⟩
    clear h
    induction d generalizing o with
    | zero =>
      obtain rfl : o = n + 1 := by omega
      rw [Tn_step n (n + 1) (by omega), Tn_far (n + 1) (n + 1 + 1) (by omega)]
      have h := ih n (Nat.le_refl _)
      rw [show 2 * n - n = n from by omega, C_self] at h
      rw [show 2 * (n + 1) - (n + 1) = n + 1 from by omega, C_self, show n + 1 - 1 = n from rfl]
      by_cases hn : n = 0
      · subst hn; rfl
      · have : (n : Int) * (Tn n n - 1) = 0 := by grind
        rcases Int.mul_eq_zero.1 this with z | z
        · omega
        · have : Tn n n = 1 := by omega
          rw [this]; simp
    | succ d ihd =>
      by_cases ho : o = 0
      · subst ho
        rw [show Tn (n + 1) 0 = 0 from by unfold Tn; rfl]; simp
      have i2 := ihd (o + 1) (by omega)
      have i1 : ((2 * n + 1 - o : Nat) : Int) * Tn n (o - 1) = ((o : Int) - 1) * (C (2 * n + 1 - o) n : Int) := by
        have := ih (o - 1) (by omega)
        rw [show 2 * n - (o - 1) = 2 * n + 1 - o from by omega, show ((o - 1 : Nat) : Int) = (o : Int) - 1 from by omega] at this
        exact this
      rw [show 2 * (n + 1) - (o + 1) = 2 * n + 1 - o from by omega, show ((o + 1 : Nat) : Int) = (o : Int) + 1 from by omega] at i2
      rw [Tn_step n o (by omega)]
      obtain ⟨m, hm⟩ : ∃ m, 2 * n + 1 - o = m + 1 := ⟨2 * n - o, by omega⟩
      rw [hm] at i1 i2
      rw [show 2 * (n + 1) - o = m + 1 + 1 from by omega, C_ss]
      have st := C_step (m + 1) n (by omega)
      have st' : ((C (m + 1) (n + 1) * (n + 1) : Nat) : Int) = ((C (m + 1) n * (m + 1 - n) : Nat) : Int) := by rw [st]
      rw [Int.natCast_mul, Int.natCast_mul] at st'
      have hm2 : ((m + 1 - n : Nat) : Int) = (n : Int) + 1 - o := by omega
      have hm3 : (m : Int) = 2 * n - o := by omega
      rw [hm2] at st'
      have e1 : ((n + 1 : Nat) : Int) = (n : Int) + 1 := by omega
      have e2 : ((m + 1 : Nat) : Int) = (m : Int) + 1 := by omega
      have e3 : ((m + 1 + 1 : Nat) : Int) = (m : Int) + 2 := by omega
      rw [e1] at st'
      rw [e2] at i1 i2
      rw [e3, Int.natCast_add]
      generalize Tn n (o - 1) = t1 at *
      generalize Tn (n + 1) (o + 1) = t2 at *
      generalize ((C (m + 1) n : Nat) : Int) = c1 at *
      generalize ((C (m + 1) (n + 1) : Nat) : Int) = c2 at *
      have key : ((m : Int) + 1) * (((m : Int) + 2) * (t1 + t2) - (o : Int) * (c1 + c2)) = 0 := by
        have k1 : ((m : Int) + 1) * (t1 + t2) = ((o : Int) - 1) * c1 + ((o : Int) + 1) * c2 := by grind
        have k2 : ((m : Int) + 2) * (((m : Int) + 1) * (t1 + t2)) = ((m : Int) + 2) * (((o : Int) - 1) * c1 + ((o : Int) + 1) * c2) := by rw [k1]
        grind
      rcases Int.mul_eq_zero.1 key with z | z
      · omega
      · omega

theorem sumUp_end (f : Nat → Int) : ∀ (d lo : Nat), sumUp f lo (d + 1) = sumUp f lo d + f (lo + d)
  | 0, lo => by simp [sumUp]
  | d + 1, lo => by
    have h := sumUp_end f d (lo + 1)
    have e : sumUp f lo (d + 1 + 1) = f lo + sumUp f (lo + 1) (d + 1) := rfl
    have e2 : sumUp f lo (d + 1) = f lo + sumUp f (lo + 1) d := rfl
    rw [e, h, e2, show lo + 1 + d = lo + (d + 1) by omega]
    omega
theorem trS_sum (f : Nat → Int) (lo : Nat) : ∀ d, trS f lo d = sumUp f lo d
  | 0 => rfl
  | d + 1 => by rw [sumUp_end, ← trS_sum f lo d]; rfl
theorem trN_eq : ∀ n, trN n = Tn n
  | 0 => by funext o; rw [trN, Tn]
  | n + 1 => by funext o; rw [trN, Tn.eq_2, trN_eq n, trS_sum]
theorem Tn_nn (n o : Nat) : 0 ≤ Tn n o := by rw [← trN_eq]; exact trN_nn n o
theorem Tn_le (n o : Nat) (hn : n < 24) (ho : o < 24) : Tn n o ≤ 1125899906842624 := by
  by_cases h : o ≤ n
  · by_cases h0 : n = 0
    · subst h0; unfold Tn; split <;> omega
    · have h1 := Tn_closed n o h
      have h2 := C_le (2 * n - o) n
      have h3 : 2 ^ (2 * n - o) ≤ 2 ^ 46 := Nat.pow_le_pow_right (by omega) (by omega)
      have h6 := Tn_nn n o
      by_cases h7 : o = 0
      · subst h7
        obtain ⟨m, rfl⟩ : ∃ m, n = m + 1 := ⟨n - 1, by omega⟩
        rw [Tn.eq_2, if_pos rfl]; omega
      by_cases h8 : 2 * n - o ≤ 45
      · have h9 : 2 ^ (2 * n - o) ≤ 2 ^ 45 := Nat.pow_le_pow_right (by omega) h8
        have h4 : (o : Int) * (C (2 * n - o) n : Int) ≤ 23 * 35184372088832 := Int.mul_le_mul (by omega) (by omega) (by omega) (by omega)
        have h5 : 1 * Tn n o ≤ ((2 * n - o : Nat) : Int) * Tn n o := Int.mul_le_mul_of_nonneg_right (by omega) h6
        omega
      · omega
  · rw [Tn_far n o (by omega)]; omega
theorem trL : TrL := fun n hn o ho => by rw [trN_eq]; exact Tn_le n o hn ho
theorem Ft_nat (n o : Nat) (hn : n < 24) (h : o ≤ n) : Ft n o = Tn n o := by
  unfold Ft
  rw [if_pos (by omega), trN_eq]
  simp
theorem cyNumber_ev (n o : Nat) (hn : n ≤ 16) (ho : o ≤ 40) : Ev (fun k => spec_cyNumber.f k n o) (Ft n o) := by
  have hT := Ft_ok trL
  unfold spec_cyNumber.f
  by_cases h1 : (o > n ∨ o = 0) ∨ n = 0
  · by_cases h0 : n = 0 ∨ o = 0
    · have e := hT.end_ n o (by omega) (by omega) (by omega)
      have e2 : Ev (fun k => spec_cyNumber.j0 k n o true) (Ft n o) := by
        refine Ev.s ?_
        simp only [spec_cyNumber.j0, if_true]
        rw [e]
        by_cases c : o = n
        · rw [if_pos c, if_pos (by omega)]; exact Ev.now _
        · rw [if_neg c, if_neg (by omega)]; exact Ev.now _
      by_cases c : n = 0
      · simp only [if_pos (show (n : Int) = 0 by omega)]; exact e2
      · simp only [if_neg (show ¬ (n : Int) = 0 by omega), show ((o : Int) == 0) = true from by simp; omega]; exact e2
    · have e := hT.end_ n o (by omega) (by omega) (by omega)
      simp only [if_neg (show ¬ (n : Int) = 0 by omega), show ((o : Int) == 0) = false from by simp; omega]
      refine Ev.s ?_
      simp only [spec_cyNumber.j0, Bool.false_eq_true, if_false, if_pos (show (o : Int) > n by omega)]
      rw [e, if_neg (by omega)]
      exact Ev.now _
  · have hon : o ≤ n := by omega
    have hc := Tn_closed n o hon
    have hb := C_le40 (2 * n - o) n (by omega)
    simp only [if_neg (show ¬ (n : Int) = 0 by omega), show ((o : Int) == 0) = false from by simp; omega]
    refine Ev.s ?_
    have w1 : wrap64 (wrap64 (2 * (n : Int)) - o) = ((2 * n - o : Nat) : Int) := by rw [w64 (n := 2 * (n : Int)) (by omega) (by omega), w64 (by omega) (by omega)]; omega
    simp only [spec_cyNumber.j0, Bool.false_eq_true, if_false, if_neg (show ¬ (o : Int) > n by omega), w1]
    refine Ev.bs (paChoose_ev _ _ (by omega)) ?_
    rw [Cz_nat, if_neg (by omega)]
    have m1 : (C (2 * n - o) n : Int) * o ≤ 1099511627776 * 40 := Int.mul_le_mul (by omega) (by omega) (by omega) (by omega)
    have m0 : 0 ≤ (C (2 * n - o) n : Int) * o := Int.mul_nonneg (by omega) (by omega)
    have t1 := Tn_le n o (by omega) (by omega)
    have t0 := Tn_nn n o
    rw [w64 (n := (C (2 * n - o) n : Int) * o) (by omega) (by omega), Int.mul_comm, ← hc, Int.mul_tdiv_cancel_left _ (by omega), w64 (by omega) (by omega), Ft_nat n o (by omega) hon]
    exact Ev.now _
theorem rtOk_of : ∀ (l : List Int) (o s : Int), l.length ≤ 16 → (∀ x ∈ l, 0 ≤ x ∧ x ≤ 16) → o = Exc l → s = o - 1 → 0 ≤ s → forB 1 s (l.take (l.length - 1)) = true → rtOk o l = true
  | [], _, _, _, _, _, _, _, _ => rfl
  | n :: t, o, s, hl, hx, ho, hs, h0, hf => by
    have hn := hx n (by simp)
    have hx' : ∀ x ∈ t, 0 ≤ x ∧ x ≤ 16 := fun x h => hx x (by simp [h])
    have hb := sumL_bd t hx'
    simp only [List.length_cons] at hl
    have he : Exc t = o + n - 1 := by rw [ho]; simp only [Exc, List.length_cons, sumL]; omega
    have hE : Exc (n :: t) ≤ 16 := by simp only [Exc, List.length_cons, sumL]; omega
    have hr : rtOk (o + n - 1) t = true := by
      cases t with
      | nil => rfl
      | cons y r =>
        simp only [List.length_cons, Nat.add_sub_cancel, List.take_succ_cons, forB] at hf
        by_cases c : s + (n - 1) ≤ -1
        · rw [if_pos c] at hf; cases hf
        · rw [if_neg c] at hf
          refine rtOk_of (y :: r) (o + n - 1) (s + (n - 1)) (by simpa using Nat.le_of_succ_le hl) hx' he.symm (by omega) (by omega) ?_
          simpa using hf
    simp only [rtOk, hr, Bool.and_true, decide_eq_true_eq]
    omega
theorem Ps_Ft (L o : Int) (j : Nat) : 0 ≤ Ps Ft L o j ∧ Ps Ft L o j ≤ 1125899906842624 * j := ⟨Ps_nn (Ft_ok trL) L o j, Ps_up (Ft_ok trL) L o j⟩
theorem spec_l1_ev (l : List Int) (r : Int × Bool) (acc o : Int) (n L : Nat) (x18 : List Int) (x19 x20 : Int) (hL : L ≤ 16) (hn : n ≤ 16) (ho : 1 ≤ o ∧ o ≤ 20) (ha : 0 ≤ acc ∧ acc ≤ 22517998136852480 * 17) (hend : Ev (fun k => spec_RankOfTree.l0 k l (acc + Ps Ft ((L + 1 : Nat) : Int) o n) (wrap64 (o + wrap64 ((n : Int) - 1))) x18 x19 (wrap64 (x20 + 1))) r) :
    ∀ (d j : Nat), j + d = n → Ev (fun k => spec_RankOfTree.l1 k l (acc + Ps Ft ((L + 1 : Nat) : Int) o j) o n L j x18 x19 x20) r := by
  intro d
  induction d with
  | zero =>
    intro j hj
    obtain rfl : j = n := by omega
    refine Ev.s ?_
    simp only [spec_RankOfTree.l1, if_neg (show ¬ (j : Int) < j by omega)]
    exact hend
  | succ d ih =>
    intro j hj
    refine Ev.s ?_
    simp only [spec_RankOfTree.l1, if_pos (show (j : Int) < n by omega)]
    have e1 : wrap64 (wrap64 (o - 1) + j) = (((o - 1 + j).toNat : Nat) : Int) := by rw [w64 (n := o - 1) (by omega) (by omega), w64 (by omega) (by omega)]; omega
    rw [e1]
    refine Ev.bs (cyNumber_ev L (o - 1 + j).toNat hL (by omega)) ?_
    have p1 := Ps_Ft ((L + 1 : Nat) : Int) o (j + 1)
    have e2 : wrap64 (acc + Ps Ft ((L + 1 : Nat) : Int) o j + Ft L (((o - 1 + j).toNat : Nat) : Int)) = acc + Ps Ft ((L + 1 : Nat) : Int) o (j + 1) := by
      have e3 : Ps Ft ((L + 1 : Nat) : Int) o (j + 1) = Ps Ft ((L + 1 : Nat) : Int) o j + Ft L (((o - 1 + j).toNat : Nat) : Int) := by
        simp only [Ps]
        congr 2 <;> omega
      rw [Int.add_assoc, ← e3, w64 (by omega) (by omega)]
    rw [e2, wsucc j (j + 1) (by omega) (by omega)]
    exact ih (j + 1) (by omega)
theorem spec_l0_ev (l : List Int) (hl : l.length ≤ 16) (hx : ∀ x ∈ l, 0 ≤ x ∧ x ≤ 16) : ∀ (d i : Nat) (acc o : Int), i + d = l.length → rtOk o (l.drop i) = true → 0 ≤ acc → acc ≤ 22517998136852480 * i →
    Ev (fun k => spec_RankOfTree.l0 k l acc o l (l.length : Int) i) (acc + rtR Ft o (l.drop i), true) := by
  intro d
  induction d with
  | zero =>
    intro i acc o hi _ _ _
    obtain rfl : i = l.length := by omega
    refine Ev.s ?_
    simp only [spec_RankOfTree.l0, if_neg (show ¬ (l.length : Int) < l.length by omega), List.drop_length, rtR, Int.add_zero]
    exact Ev.now _
  | succ d ih =>
    intro i acc o hi hok ha hb
    refine Ev.s ?_
    simp only [spec_RankOfTree.l0, if_pos (show (i : Int) < l.length by omega), if_pos (show (0 : Int) ≤ i by omega)]
    have hd := drop_rd l i (by omega)
    rw [hd] at hok ⊢
    have ho := rtOk_cons hok
    have hm : rd l (i : Int) ≤ 16 := by rw [rd_get l i (by omega)]; exact (hx _ (List.getElem_mem _)).2
    obtain ⟨n, hn⟩ : ∃ n : Nat, rd l (i : Int) = n := Int.eq_ofNat_of_zero_le ho.1.1
    rw [hn] at ho hm ⊢
    have e1 : wrap64 (wrap64 ((l.length : Int) - i) - 1) = ((l.length - 1 - i : Nat) : Int) := by rw [w64 (n := (l.length : Int) - i) (by omega) (by omega), w64 (by omega) (by omega)]; omega
    have e2 : wrap64 (o + wrap64 ((n : Int) - 1)) = o + n - 1 := by rw [w64 (n := (n : Int) - 1) (by omega) (by omega), w64 (by omega) (by omega)]; omega
    have e3 : (((l.drop (i + 1)).length : Nat) : Int) + 1 = ((l.length - 1 - i + 1 : Nat) : Int) := by rw [List.length_drop]; omega
    have p1 := Ps_Ft ((l.length - 1 - i + 1 : Nat) : Int) o n
    rw [e1]
    simp only [rtR, Int.toNat_natCast, e3]
    have h0 := spec_l1_ev l (acc + (Ps Ft ((l.length - 1 - i + 1 : Nat) : Int) o n + rtR Ft (o + n - 1) (l.drop (i + 1))), true) acc o n (l.length - 1 - i) l (l.length : Int) i (by omega) (by omega) ⟨ho.1.2.2.1, ho.1.2.2.2⟩ ⟨ha, by omega⟩ (by
      rw [e2, wsucc i l.length (by omega) (by omega), ← Int.add_assoc]
      exact ih (i + 1) _ _ (by omega) ho.2 (by omega) (by omega)) n 0 (by omega)
    simpa [Ps] using h0
theorem FnExactRankOfTree : laws_FnExactRankOfTree.Pure := by
  intro l _ _ _
  refine Ev.rounds ?_
  unfold laws_FnExactRankOfTree.f
  by_cases hbig : (l.length : Int) > 1048576
  · simp only [if_pos hbig]; exact Ev.now _
  simp only [if_neg hbig]
  have hn : l.length ≤ 35184372088832 := by omega
  have fin : ∀ v : Int × Bool, Ev (fun k => spec_RankOfTree.f k l) v → Ev (fun k => impl_RankOfTree.f k l) v → Ev (fun k => (laws_toIntS.f k l).bind fun t145 => ((spec_RankOfTree.f k t145).bind fun bt148 => ((laws_toIntS.f k l).bind fun t150 => ((impl_RankOfTree.f k t150).bind fun bt153 => (if bt153.1 = bt148.1 then (laws_FnExactRankOfTree.j0 k l t150 (bt153.2 != bt148.2)) else (laws_FnExactRankOfTree.j0 k l t150 true)))))) true := by
    intro v e1 e2
    refine Ev.bs (toIntS_ev l hn) (Ev.bs e1 (Ev.bs (toIntS_ev l hn) (Ev.bs e2 ?_)))
    simp only [if_true, bne_self_eq_false]
    refine Ev.s ?_
    simp only [laws_FnExactRankOfTree.j0, Bool.false_eq_true, if_false]
    refine Ev.bs (toIntS_ev l hn) (Ev.bs (eqIntS_ev l l hn) (Ev.c ?_))
    simp
  have no2 : ∀ k, spec_RankOfTree.j0 (k + 1) l true = some (0, false) := fun k => by simp [spec_RankOfTree.j0]
  by_cases hf : (DegB l && ForB l) = true
  · have hd : DegB l = true := (Bool.and_eq_true _ _ ▸ hf).1
    have hfo : ForB l = true := (Bool.and_eq_true _ _ ▸ hf).2
    have hD := DegB_iff hd
    by_cases hE : Exc l = 1
    · have hok : rtOk 1 l = true := by
        unfold ForB at hfo
        rw [hE] at hfo
        simp only [Bool.and_eq_true, decide_eq_true_eq] at hfo
        exact rtOk_of l 1 0 hD.1.2 hD.2 hE.symm rfl (by omega) hfo.2
      refine fin (rtR Ft 1 l, true) ?_ ?_
      · unfold spec_RankOfTree.f
        refine Ev.bs (cyIs_ev l hn) ?_
        simp only [hf, if_true]
        refine Ev.bs (cyExcess_ev l hd) ?_
        rw [hE]
        refine Ev.s ?_
        simp only [bne_self_eq_false, spec_RankOfTree.j0, Bool.false_eq_true, if_false]
        have := spec_l0_ev l hD.1.2 hD.2 l.length 0 0 1 (by omega) (by simpa using hok) (by omega) (by omega)
        simpa using this
      · unfold impl_RankOfTree.f impl_isTree.f
        refine Ev.bs (a := true) (Ev.bs (areForest_ev l hn) ?_) ?_
        · simp only [hf, if_true]
          refine Ev.bs (excess_ev l hd) ?_
          rw [hE]; exact Ev.c (by simp)
        · simp only [if_true]
          rw [if_pos ⟨trL, by omega, hok⟩]
          exact Ev.now _
    · refine fin (0, false) ?_ ?_
      · unfold spec_RankOfTree.f
        refine Ev.bs (cyIs_ev l hn) ?_
        simp only [hf, if_true]
        refine Ev.bs (cyExcess_ev l hd) ?_
        rw [show (Exc l != 1) = true from by simpa using hE]
        refine Ev.s ?_
        simp only [no2]; exact Ev.now _
      · unfold impl_RankOfTree.f impl_isTree.f
        refine Ev.bs (a := false) (Ev.bs (areForest_ev l hn) ?_) ?_
        · simp only [hf, if_true]
          refine Ev.bs (excess_ev l hd) ?_
          exact Ev.c (by simpa using hE)
        · simp only [Bool.false_eq_true, if_false]; exact Ev.now _
  · refine fin (0, false) ?_ ?_
    · unfold spec_RankOfTree.f
      refine Ev.bs (cyIs_ev l hn) ?_
      simp only [if_neg hf]
      refine Ev.s ?_
      simp only [no2]; exact Ev.now _
    · unfold impl_RankOfTree.f impl_isTree.f
      refine Ev.bs (a := false) (Ev.bs (areForest_ev l hn) ?_) ?_
      · simp only [if_neg hf]; exact Ev.now _
      · simp only [Bool.false_eq_true, if_false]; exact Ev.now _

end Go.Proofs.Ytblofikjcmjaeaa.Pure
