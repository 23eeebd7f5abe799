/- The plain law of the statement FnExactAllTrees: what the program's function computes is what the reference's computes, for all arguments; no condition. -/
import Derived.Test.YtlogghfgfokijaaPFnExactAllTreesx3
namespace Go.Proofs.Ytlogghfgfokijaa.Pure
open Go.RowKit Go.Proofs.Ytlogghfgfokijaa.PFnExactAllTrees Go.Proofs.YtlogghfgfokijaaW.PrintWords Go.Proofs.YtlogghfgfokijaaW.PrintLast Go.Proofs.YtlogghfgfokijaaW.PrintMore

theorem Ev.s {α : Type} {g : Nat → Option α} {r : α} (h : Ev (fun k => g (k + 1)) r) : Ev g r := by
  obtain ⟨K, hK⟩ := h
  refine ⟨K + 1, fun k hk => ?_⟩
  obtain ⟨m, rfl⟩ : ∃ m, k = m + 1 := ⟨k - 1, by omega⟩
  exact hK m (by omega)
theorem Ev.c {α : Type} {o : Option α} {r : α} (h : o = some r) : Ev (fun _ => o) r := ⟨0, fun _ _ => h⟩
theorem Ev.u {α : Type} {g : Nat → Option α} {r r' : α} (h : Ev g r) (h' : Ev g r') : r = r' := by
  obtain ⟨K, hK⟩ := h
  obtain ⟨K', hK'⟩ := h'
  have a := hK (max K K') (by omega)
  have b := hK' (max K K') (by omega)
  rw [a] at b
  exact Option.some.inj b
theorem Ev.e {α : Type} {g : Nat → Option α} {r r' : α} (h : Ev g r) (e : r = r') : Ev g r' := e ▸ h
theorem Ev.bs {α β : Type} {g : Nat → Option α} {f : Nat → α → Option β} {a : α} {r : β} (h : Ev g a) (k : Ev (fun n => f n a) r) : Ev (fun n => Option.bind (g n) (f n)) r := Ev.bind h k
theorem w64 {n : Int} (h : -9223372036854775808 ≤ n) (h' : n ≤ 9223372036854775807) : wrap64 n = n := by unfold wrap64; omega
theorem rd_set (l : List Int) (i j : Int) (v : Int) (hi : 0 ≤ i) (hj : 0 ≤ j) (hl : i < (l.length : Int)) : rd (l.set i.toNat v) j = if i = j then v else rd l j := by
  unfold rd
  rw [List.getD_eq_getElem?_getD, List.getD_eq_getElem?_getD, List.getElem?_set]
  by_cases e : i = j
  · subst e; rw [if_pos rfl, if_pos rfl, if_pos (by omega)]; rfl
  · rw [if_neg (by omega), if_neg e]

theorem in_eq (a b c : Int) : impl_in.f a b c = some (decide (b ≤ a ∧ a ≤ c)) := by
  unfold impl_in.f
  by_cases h : b ≤ a
  · rw [if_pos h]; simp [h]
  · rw [if_neg h]; simp [h]
theorem l1In_eq (a b c : Int) : spec_l1In.f a b c = some (decide (b ≤ a ∧ a ≤ c)) := by
  unfold spec_l1In.f
  by_cases h : a ≥ b
  · rw [if_pos h]; simp [h]
  · rw [if_neg h]; simp [h]

theorem drop_rd (l : List Int) (i : Nat) (h : i < l.length) : l.drop i = rd l (i : Int) :: l.drop (i + 1) := by
  rw [List.drop_eq_getElem_cons h]
  unfold rd
  rw [Int.toNat_natCast, List.getD_eq_getElem?_getD, List.getElem?_eq_getElem h]
  rfl
theorem rd_get (l : List Int) (i : Nat) (h : i < l.length) : rd l (i : Int) = l[i] := by
  unfold rd
  rw [Int.toNat_natCast, List.getD_eq_getElem?_getD, List.getElem?_eq_getElem h]
  rfl
theorem wsucc (i n : Nat) (h : i < n) (hn : n ≤ 9223372036854775807) : wrap64 ((i : Int) + 1) = ((i + 1 : Nat) : Int) := by
  rw [w64 (by omega) (by omega)]; omega
theorem rd_cons_succ (x : Int) (l : List Int) (i : Nat) : rd (x :: l) ((i + 1 : Nat) : Int) = rd l (i : Int) := by
  unfold rd
  simp only [Int.toNat_natCast, List.getD_cons_succ]
theorem rd_cons_zero (x : Int) (l : List Int) : rd (x :: l) 0 = x := rfl

theorem rd_take (l : List Int) (n i : Nat) (h : i < n) : rd (l.take n) (i : Int) = rd l (i : Int) := by
  unfold rd
  rw [Int.toNat_natCast, List.getD_eq_getElem?_getD, List.getD_eq_getElem?_getD, List.getElem?_take_of_lt h]

theorem eqIntS_l0 (l m : List Int) (hl : l.length = m.length) (hn : l.length ≤ 35184372088832) (d : Nat) : ∀ (i : Nat), i + d = l.length →
    Ev (fun k => laws_eqIntS.l0 k l m (i : Int)) (decide (l.drop i = m.drop i)) := by
  induction d with
  | zero =>
    intro i hi
    refine Ev.s ?_
    have c : ¬ ((i : Int) < (l.length : Int)) := by omega
    simp only [laws_eqIntS.l0, if_neg c]
    rw [List.drop_of_length_le (by omega), List.drop_of_length_le (by omega)]
    exact Ev.now _
  | succ d ih =>
    intro i hi
    refine Ev.s ?_
    have c1 : ((i : Int) < (l.length : Int)) := by omega
    have c2 : (0 : Int) ≤ (i : Int) := by omega
    have c3 : ((i : Int) < (m.length : Int)) := by omega
    have e := wsucc i l.length (by omega) (by omega)
    simp only [laws_eqIntS.l0, if_pos c1, if_pos c2, if_pos c3, e]
    rw [drop_rd l i (by omega), drop_rd m i (by omega)]
    by_cases h : rd l (i : Int) = rd m (i : Int)
    · simp only [if_pos h]
      refine Ev.e (ih (i + 1) (by omega)) ?_
      simp [h]
    · simp only [if_neg h]
      have : (decide (rd l (i : Int) :: l.drop (i + 1) = rd m (i : Int) :: m.drop (i + 1))) = false := by
        apply decide_eq_false; intro h'; exact h (List.cons.inj h').1
      rw [this]; exact Ev.now _
theorem eqIntS_ev (l m : List Int) (hn : l.length ≤ 35184372088832) : Ev (fun k => laws_eqIntS.f k l m) (decide (l = m)) := by
  unfold laws_eqIntS.f
  by_cases h : l.length = m.length
  · have c : ((l.length : Int) = (m.length : Int)) := by omega
    simp only [if_pos c]
    exact eqIntS_l0 l m h hn l.length 0 (by omega)
  · have c : ¬ ((l.length : Int) = (m.length : Int)) := by omega
    simp only [if_neg c]
    have : decide (l = m) = false := by apply decide_eq_false; intro e; rw [e] at h; exact h rfl
    rw [this]; exact Ev.now _

/-- k, k + 1, .. -/
def upL : Int → Nat → List Int
  | _, 0 => []
  | k, n + 1 => k :: upL (k + 1) n
theorem upL_len : ∀ (n : Nat) (k : Int), (upL k n).length = n
  | 0, _ => rfl
  | n + 1, k => by simp only [upL, List.length_cons, upL_len n]
theorem upL_snoc : ∀ (n : Nat) (k : Int), upL k (n + 1) = upL k n ++ [k + n]
  | 0, k => by simp [upL]
  | n + 1, k => by
    rw [upL, upL_snoc n (k + 1), upL, List.cons_append, Int.natCast_succ, show k + 1 + (n : Int) = k + ((n : Int) + 1) from by omega]
theorem upL_rd : ∀ (n i : Nat) (k : Int), i < n → rd (upL k n) (i : Int) = k + i
  | n + 1, 0, k, _ => by simp [upL, rd_cons_zero]
  | n + 1, i + 1, k, h => by
    rw [upL, rd_cons_succ, upL_rd n i (k + 1) (by omega), Int.natCast_succ]; omega
theorem markIntS_ev (l : List Int) (hl : l.length ≤ 2000000) : Ev (fun k => laws_markIntS.f k l 1) (1 + (l.length : Int), upL 1 l.length) := by
  have key : ∀ (d i : Nat) (m : List Int), i + d = l.length → m.length = l.length → m.take i = upL 1 i → Ev (fun k => laws_markIntS.l0 k m (1 + (i : Int)) (i : Int)) (1 + (l.length : Int), upL 1 l.length) := by
    intro d
    induction d with
    | zero =>
      intro i m hi hm ht
      refine Ev.s ?_
      have c : ¬ ((i : Int) < (m.length : Int)) := by omega
      simp only [laws_markIntS.l0, if_neg c]
      rw [List.take_of_length_le (by omega)] at ht
      rw [ht, show i = l.length from by omega]
      exact Ev.now _
    | succ d ih =>
      intro i m hi hm ht
      refine Ev.s ?_
      have c1 : ((i : Int) < (m.length : Int)) := by omega
      have c2 : (0 : Int) ≤ (i : Int) := by omega
      have e := wsucc i l.length (by omega) (by omega)
      have e2 : wrap64 (1 + (i : Int) + 1) = 1 + ((i + 1 : Nat) : Int) := by rw [w64 (by omega) (by omega)]; omega
      simp only [laws_markIntS.l0, if_pos c1, if_pos c2, e, e2, Int.toNat_natCast]
      refine ih (i + 1) _ (by omega) (by simpa using hm) ?_
      rw [List.take_succ_eq_append_getElem (by simp; omega), List.take_set_of_le (by omega), ht, upL_snoc]
      simp
  have := key l.length 0 l (by omega) rfl rfl
  exact this
theorem heldIntS_ev (n : Nat) (hn : n ≤ 2000000) : Ev (fun k => laws_heldIntS.f k (upL 1 n) 1) (1 + (n : Int)) := by
  have key : ∀ (d i : Nat), i + d = n → Ev (fun k => laws_heldIntS.l0 k (upL 1 n) (1 + (i : Int)) (i : Int)) (1 + (n : Int)) := by
    intro d
    induction d with
    | zero =>
      intro i hi
      refine Ev.s ?_
      have c : ¬ ((i : Int) < ((upL 1 n).length : Int)) := by rw [upL_len]; omega
      simp only [laws_heldIntS.l0, if_neg c]
      rw [show i = n from by omega]
      exact Ev.now _
    | succ d ih =>
      intro i hi
      refine Ev.s ?_
      have c1 : ((i : Int) < ((upL 1 n).length : Int)) := by rw [upL_len]; omega
      have c2 : (0 : Int) ≤ (i : Int) := by omega
      have c3 := upL_rd n i 1 (by omega)
      have e := wsucc i n (by omega) (by omega)
      have e2 : wrap64 (1 + (i : Int) + 1) = 1 + ((i + 1 : Nat) : Int) := by rw [w64 (by omega) (by omega)]; omega
      simp only [laws_heldIntS.l0, if_pos c1, if_pos c2, c3, if_true, e, e2]
      exact ih (i + 1) (by omega)
  have := key n 0 (by omega)
  exact this

/-- How many cells. -/
def totL : List (List Int) → Int
  | [] => 0
  | r :: t => (r.length : Int) + totL t
theorem totL_nn : ∀ rs, 0 ≤ totL rs
  | [] => Int.le_refl _
  | r :: t => by have := totL_nn t; simp only [totL]; omega
/-- Marks, on and on. -/
def upLL : Int → List (List Int) → List (List Int)
  | _, [] => []
  | a, r :: t => upL a r.length :: upLL (a + (r.length : Int)) t
theorem upLL_len : ∀ (rs : List (List Int)) (a : Int), (upLL a rs).length = rs.length
  | [], _ => rfl
  | r :: t, a => by simp only [upLL, List.length_cons, upLL_len t]
theorem markIntS_evg (l : List Int) (a : Int) (ha : 0 ≤ a) (hl : a + (l.length : Int) ≤ 4000000000) : Ev (fun k => laws_markIntS.f k l a) (a + (l.length : Int), upL a l.length) := by
  have key : ∀ (d i : Nat) (m : List Int), i + d = l.length → m.length = l.length → m.take i = upL a i → Ev (fun k => laws_markIntS.l0 k m (a + (i : Int)) (i : Int)) (a + (l.length : Int), upL a l.length) := by
    intro d
    induction d with
    | zero =>
      intro i m hi hm ht
      refine Ev.s ?_
      have c : ¬ ((i : Int) < (m.length : Int)) := by omega
      simp only [laws_markIntS.l0, if_neg c]
      rw [List.take_of_length_le (by omega)] at ht
      rw [ht, show i = l.length from by omega]
      exact Ev.now _
    | succ d ih =>
      intro i m hi hm ht
      refine Ev.s ?_
      have c1 : ((i : Int) < (m.length : Int)) := by omega
      have c2 : (0 : Int) ≤ (i : Int) := by omega
      have e := wsucc i l.length (by omega) (by omega)
      have e2 : wrap64 (a + (i : Int) + 1) = a + ((i + 1 : Nat) : Int) := by rw [w64 (by omega) (by omega)]; omega
      simp only [laws_markIntS.l0, if_pos c1, if_pos c2, e, e2, Int.toNat_natCast]
      refine ih (i + 1) _ (by omega) (by simpa using hm) ?_
      rw [List.take_succ_eq_append_getElem (by simp; omega), List.take_set_of_le (by omega), ht, upL_snoc]
      simp
  have := key l.length 0 l (by omega) rfl rfl
  unfold laws_markIntS.f
  simpa using this
theorem heldIntS_evg (n : Nat) (a : Int) (ha : 0 ≤ a) (hn : a + (n : Int) ≤ 4000000000) : Ev (fun k => laws_heldIntS.f k (upL a n) a) (a + (n : Int)) := by
  have key : ∀ (d i : Nat), i + d = n → Ev (fun k => laws_heldIntS.l0 k (upL a n) (a + (i : Int)) (i : Int)) (a + (n : Int)) := by
    intro d
    induction d with
    | zero =>
      intro i hi
      refine Ev.s ?_
      have c : ¬ ((i : Int) < ((upL a n).length : Int)) := by rw [upL_len]; omega
      simp only [laws_heldIntS.l0, if_neg c]
      rw [show i = n from by omega]
      exact Ev.now _
    | succ d ih =>
      intro i hi
      refine Ev.s ?_
      have c1 : ((i : Int) < ((upL a n).length : Int)) := by rw [upL_len]; omega
      have c2 : (0 : Int) ≤ (i : Int) := by omega
      have c3 := upL_rd n i a (by omega)
      have e := wsucc i n (by omega) (by omega)
      have e2 : wrap64 (a + (i : Int) + 1) = a + ((i + 1 : Nat) : Int) := by rw [w64 (by omega) (by omega)]; omega
      simp only [laws_heldIntS.l0, if_pos c1, if_pos c2, c3, if_true, e, e2]
      exact ih (i + 1) (by omega)
  have := key n 0 (by omega)
  unfold laws_heldIntS.f
  simpa using this
theorem rdL_app (done : List (List Int)) (r : List Int) (t : List (List Int)) : rd_L1 (done ++ r :: t) (done.length : Int) = r := by
  unfold rd_L1
  rw [Int.toNat_natCast, List.getD_eq_getElem?_getD, List.getElem?_append_right (Nat.le_refl _), Nat.sub_self]
  rfl
theorem set_app (done : List (List Int)) (r x : List Int) (t : List (List Int)) : (done ++ r :: t).set done.length x = (done ++ [x]) ++ t := by
  rw [List.set_append_right _ _ (Nat.le_refl _), Nat.sub_self, List.append_assoc]
  rfl
theorem lapp (done : List (List Int)) (r : List Int) (t : List (List Int)) (h : (done ++ r :: t).length ≤ 4000000000) : (done.length : Int) < ((done ++ r :: t).length : Int) ∧ wrap64 ((done.length : Int) + 1) = ((done ++ [r]).length : Int) ∧ done.length < 4000000000 := by
  rw [List.length_append, List.length_cons] at *
  refine ⟨by omega, ?_, by omega⟩
  rw [wsucc done.length 4000000000 (by omega) (by omega), List.length_append]
  rfl
theorem markSS_ev : ∀ (todo done : List (List Int)) (a : Int), 0 ≤ a → a + totL todo ≤ 4000000000 → (done ++ todo).length ≤ 4000000000 →
    Ev (fun k => laws_markIntSS.l0 k (done ++ todo) a (done.length : Int)) (a + totL todo, done ++ upLL a todo)
  | [], done, a, h0, h1, h2 => by
    refine Ev.s ?_
    have c : ¬ ((done.length : Int) < ((done ++ ([] : List (List Int))).length : Int)) := by rw [List.append_nil]; omega
    simp only [laws_markIntSS.l0, if_neg c, totL, upLL, Int.add_zero]
    exact Ev.now _
  | r :: t, done, a, h0, h1, h2 => by
    obtain ⟨c1, e, _⟩ := lapp done r t h2
    have c2 : (0 : Int) ≤ (done.length : Int) := by omega
    have ht := totL_nn t
    simp only [totL] at h1
    have ih := markSS_ev t (done ++ [upL a r.length]) (a + (r.length : Int)) (by omega) (by omega) (by rw [List.length_append, List.length_cons] at h2; rw [List.length_append, List.length_append, List.length_singleton]; omega)
    refine Ev.s ?_
    simp only [laws_markIntSS.l0, if_pos c1, if_pos c2, rdL_app, e, Int.toNat_natCast, totL, upLL]
    refine Ev.bs (markIntS_evg r a h0 (by omega)) ?_
    simp only [set_app]
    rw [show ((done ++ [r]).length : Int) = ((done ++ [upL a r.length]).length : Int) from by rw [List.length_append, List.length_append]; rfl]
    refine Ev.e ih ?_
    rw [List.append_assoc, Int.add_assoc]
    rfl
theorem heldSS_ev : ∀ (todo done : List (List Int)) (a : Int), 0 ≤ a → a + totL todo ≤ 4000000000 → (done ++ todo).length ≤ 4000000000 →
    Ev (fun k => laws_heldIntSS.l0 k (done ++ upLL a todo) a (done.length : Int)) (a + totL todo)
  | [], done, a, h0, h1, h2 => by
    refine Ev.s ?_
    have c : ¬ ((done.length : Int) < ((done ++ ([] : List (List Int))).length : Int)) := by rw [List.append_nil]; omega
    show Ev (fun k => laws_heldIntSS.l0 (k + 1) (done ++ ([] : List (List Int))) a (done.length : Int)) _
    simp only [laws_heldIntSS.l0, if_neg c, totL, Int.add_zero]
    exact Ev.now _
  | r :: t, done, a, h0, h1, h2 => by
    have hl : (done ++ upL a r.length :: upLL (a + (r.length : Int)) t).length = (done ++ r :: t).length := by
      rw [List.length_append, List.length_append, List.length_cons, List.length_cons, upLL_len]
    obtain ⟨c1, e, _⟩ := lapp done (upL a r.length) (upLL (a + (r.length : Int)) t) (by rw [hl]; exact h2)
    have c2 : (0 : Int) ≤ (done.length : Int) := by omega
    have ht := totL_nn t
    simp only [totL] at h1
    have ih := heldSS_ev t (done ++ [upL a r.length]) (a + (r.length : Int)) (by omega) (by omega) (by rw [List.length_append, List.length_cons] at h2; rw [List.length_append, List.length_append, List.length_singleton]; omega)
    refine Ev.s ?_
    simp only [upLL, laws_heldIntSS.l0, if_pos c1, if_pos c2, rdL_app, e, totL]
    refine Ev.bs (heldIntS_evg r.length a h0 (by omega)) ?_
    have c3 : ¬ (a + (r.length : Int) < 0) := by omega
    simp only [if_neg c3]
    rw [List.append_assoc] at ih
    refine Ev.e ih ?_
    rw [Int.add_assoc]
theorem eqSS_ev : ∀ (todo done : List (List Int)), totL todo ≤ 4000000000 → (done ++ todo).length ≤ 4000000000 →
    Ev (fun k => laws_eqIntSS.l0 k (done ++ todo) (done ++ todo) (done.length : Int)) true
  | [], done, h1, h2 => by
    refine Ev.s ?_
    have c : ¬ ((done.length : Int) < ((done ++ ([] : List (List Int))).length : Int)) := by rw [List.append_nil]; omega
    simp only [laws_eqIntSS.l0, if_neg c]
    exact Ev.now _
  | r :: t, done, h1, h2 => by
    obtain ⟨c1, e, _⟩ := lapp done r t h2
    have c2 : (0 : Int) ≤ (done.length : Int) := by omega
    have ht := totL_nn t
    simp only [totL] at h1
    have ih := eqSS_ev t (done ++ [r]) (by omega) (by rw [List.append_assoc]; exact h2)
    refine Ev.s ?_
    simp only [laws_eqIntSS.l0, if_pos c1, if_pos c2, rdL_app, e]
    refine Ev.bs (eqIntS_ev r r (by omega)) ?_
    simp only [decide_true, if_true]
    rw [List.append_assoc] at ih
    exact ih
theorem eqIntSS_ev (rs : List (List Int)) (h1 : totL rs ≤ 4000000000) (h2 : rs.length ≤ 4000000000) : Ev (fun k => laws_eqIntSS.f k rs rs) true := by
  unfold laws_eqIntSS.f
  simp only [if_true]
  exact eqSS_ev rs [] h1 (by rw [List.nil_append]; exact h2)
theorem markIntSS_ev (rs : List (List Int)) (h1 : totL rs ≤ 3000000000) (h2 : rs.length ≤ 4000000000) : Ev (fun k => laws_markIntSS.f k rs 1) (1 + totL rs, upLL 1 rs) :=
  markSS_ev rs [] 1 (by omega) (by omega) (by rw [List.nil_append]; exact h2)
theorem heldIntSS_ev (rs : List (List Int)) (h1 : totL rs ≤ 3000000000) (h2 : rs.length ≤ 4000000000) : Ev (fun k => laws_heldIntSS.f k (upLL 1 rs) 1) (1 + totL rs) :=
  heldSS_ev rs [] 1 (by omega) (by omega) (by rw [List.nil_append]; exact h2)
theorem Ev.both {α β : Type} {g : Nat → Option α} {h : Nat → Option β} {a : α} {b : β} (x : Ev g a) (y : Ev h b) : ∃ K, ∀ k, K ≤ k → g k = some a ∧ h k = some b := by
  obtain ⟨K, hK⟩ := x
  obtain ⟨L, hL⟩ := y
  exact ⟨max K L, fun k hk => ⟨hK k (by omega), hL k (by omega)⟩⟩

/-- Both lists, at n. -/
def TreesB (n : Int) : Bool := match spec_AllTrees.f 200 n, impl_AllTrees.f 200 n with
  | some (x, true), some (y, true) => decide (x = y) && decide (totL x ≤ 100000) && decide (x.length ≤ 100000)
  | _, _ => false
theorem TreesB_some {n : Int} (h : TreesB n = true) : ∃ rs : List (List Int), totL rs ≤ 100000 ∧ rs.length ≤ 100000 ∧ Ev (fun k => spec_AllTrees.f k n) (rs, true) ∧ Ev (fun k => impl_AllTrees.f k n) (rs, true) := by
  unfold TreesB at h
  split at h
  · rename_i x y h1 h2
    simp only [Bool.and_eq_true, decide_eq_true_eq] at h
    obtain ⟨⟨rfl, h3⟩, h4⟩ := h
    exact ⟨x, h3, h4, Ev.of (spec_AllTrees.mono n) h1, Ev.of (impl_AllTrees.mono n) h2⟩
  · cases h
set_option maxRecDepth 100000 in
theorem TreesB_all : ∀ i : Fin 7, TreesB ((i.val : Int) + 1) = true := by decide +kernel
theorem FnExactAllTrees : laws_FnExactAllTrees.Pure := by
  intro n _
  have two : ∃ (rs : List (List Int)) (b : Bool), totL rs ≤ 100000 ∧ rs.length ≤ 100000 ∧ Ev (fun k => spec_AllTrees.f k n) (rs, b) ∧ Ev (fun k => impl_AllTrees.f k n) (rs, b) := by
    by_cases hn : 1 ≤ n ∧ n ≤ 7
    · have := TreesB_all ⟨(n - 1).toNat, by omega⟩
      rw [show (((⟨(n - 1).toNat, by omega⟩ : Fin 7).val : Nat) : Int) + 1 = n from by show (((n - 1).toNat : Nat) : Int) + 1 = n; omega] at this
      obtain ⟨rs, h1, h2, h3, h4⟩ := TreesB_some this
      exact ⟨rs, true, h1, h2, h3, h4⟩
    · refine ⟨[], false, by simp [totL], by simp, ?_, ?_⟩
      · unfold spec_AllTrees.f
        simp only [l1In_eq, Option.bind_some, decide_eq_true_eq, if_neg hn]
        exact Ev.now _
      · unfold impl_AllTrees.f
        simp only [in_eq, Option.bind_some, decide_eq_true_eq, if_neg hn]
        exact Ev.now _
  obtain ⟨rs, b, t1, t2, e1, e2⟩ := two
  obtain ⟨K1, h1⟩ := Ev.both e1 e2
  obtain ⟨K2, h2⟩ := Ev.both (eqIntSS_ev rs (by omega) (by omega)) (markIntSS_ev rs (by omega) (by omega))
  obtain ⟨K3, h3⟩ := heldIntSS_ev rs (by omega) (by omega)
  have tn := totL_nn rs
  exact ⟨max K1 (max K2 K3), rs, upLL 1 rs, b, 1 + totL rs, (h1 _ (by omega)).1, (h1 _ (by omega)).2, (h2 _ (by omega)).1, (h2 _ (by omega)).2, h3 _ (by omega), by omega, upLL_len _ _⟩

end Go.Proofs.Ytlogghfgfokijaa.Pure
