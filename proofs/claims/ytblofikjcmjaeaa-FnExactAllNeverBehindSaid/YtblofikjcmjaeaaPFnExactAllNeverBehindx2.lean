/- The walk of the statement FnExactAllNeverBehind: each Go function that it reaches does what the Lean function of its name says; printed by a program of this session. -/
import Derived.Test.YtblofikjcmjaeaaPFnExactAllNeverBehindx0
import Derived.Test.YtblofikjcmjaeaaPFnExactAllNeverBehindx1
namespace Go.Proofs.Ytblofikjcmjaeaa.PFnExactAllNeverBehind
open Go.RowKit Go.Proofs.YtblofikjcmjaeaaW.PrintWords Go.Proofs.YtblofikjcmjaeaaW.PrintLast Go.Proofs.YtblofikjcmjaeaaW.PrintMore
attribute [local go_sem] max2_int min2_int max_two min_two max_three min_three max_four min_four   -- for this text's walks alone
set_option linter.unusedVariables false
set_option linter.unusedSimpArgs false

/-! ### spec_AllNeverBehind: function 28 -/
theorem below_dn (B : Nat) (w : World) (n : Nat) : Below B w (w.drewN n) := ⟨rfl, rfl, rfl, Nat.le_refl _, fun _ _ => rfl⟩
theorem strOf_app (a b : List Int) : strOfNums (a ++ b) = strOfNums a ++ strOfNums b := by
  apply ByteArray.ext
  rw [ByteArray.data_append]
  unfold strOfNums
  simp
theorem strOf_cons (s : ByteArray) (c : Int) (u : UInt8) (h : strOfNums [c] = ⟨#[u]⟩) (x : List Int) : s ++ strOfNums (c :: x) = (s ++ (⟨#[u]⟩ : ByteArray)) ++ strOfNums x := by
  rw [show c :: x = [c] ++ x from rfl, strOf_app, h, ByteArray.append_assoc]
/-- The texts that the reference's search meets. -/
def Lk (k l : Int) : Nat → Int → Int → Int → List (List Int)
  | 0, _, _, _ => [[]]
  | n + 1, a, b, mg => (if 0 < b ∧ l ≤ mg - k then (Lk k l n a (b - 1) (mg - k)).map (68 :: ·) else []) ++ (if 0 < a then (Lk k l n (a - 1) b (mg + 1)).map (85 :: ·) else [])
/-- What is in the variable that the search fills. -/
structure OutB (g S : Nat) (w0 W : World) (v : Value) (xs : List ByteArray) : Prop where
  cell : W.cell? ⟨g, 0, none⟩ = some v
  froz : W.frozen? ⟨g, 0, none⟩ = false
  row : Kd.R Kd.string 9 W S (fun x => x ≠ g) v xs
  bel : Below S w0 W
theorem mul_one_less (k b : Int) : k * (b - 1) = k * b - k := by rw [Int.mul_sub, Int.mul_one]
set_option maxHeartbeats 16000000 in
set_option maxRecDepth 100000 in
theorem baLook.calls (g S : Nat) (hSg : S ≤ g) (w0 : World) (hS0 : S ≤ w0.heap.size) (k l : Int) (hk : 1 ≤ k ∧ k ≤ 5) (hl : -10 ≤ l ∧ l ≤ 10) : ∀ (n : Nat) (s : ByteArray) (a b mg : Int) (W : World) (v : Value) (xs : List ByteArray), 0 ≤ a → 0 ≤ b → a + b = n → s.size + n ≤ 40 → l - 1 ≤ mg → mg + a ≤ 400 → (n = 0 ∨ l ≤ mg + a - k * b) → xs.length + (Lk k l n a b mg).length ≤ 300 → OutB g S w0 W v xs →
    Calls Try.prog 69 #[.string s, .int .i64 a, .int .i64 b, .int .i64 k, .int .i64 mg, .int .i64 l, .pointer (some ⟨g, 0, none⟩)] W fun e w' => e = .returned (.tuple #[]) ∧ ∃ v', OutB g S w0 w' v' (xs ++ (Lk k l n a b mg).map (fun x => s ++ strOfNums x)) := by
  intro n
  induction n with
  | zero =>
    intro s a b mg W v xs ha hb hn hs hm1 hm2 hf hx ho
    obtain rfl : a = 0 := by omega
    obtain rfl : b = 0 := by omega
    have HO := Aside0.mk ho
    obtain ⟨A, c, rfl⟩ := Kd.R_slice ho.row
    have hcell := ho.cell
    have hfroz := ho.froz
    clear ho
    have hlen : (xs.length : Int) ≤ 300 := by omega
    have hlb : decide ((xs.length : Int) > 300) = false := decide_eq_false (by omega)
    have hlc : decide (300 < (xs.length : Int)) = false := decide_eq_false (by omega)
    have HL := Aside0.mk hlen
    have hgl := Aside0.mk (World.block_lt_of_cell? W _ hcell)
    clear hlen hx hm1 hm2 hf hs hn ha hb
    go_enter Try.func69, Try.ntmps69
    go_wp2_with (first | ((with_reducible refine gate_builtin (b := .append) (xs := #[.tmp 26, .tmp 28]) rfl ?_); at_builtin; refine Kd.R_append Kd.string (w0 := W) S rfl (.tmp 26) (.tmp 28) 35 9 (.string ⟨#[]⟩) 16 rfl Try.underlying35 info9 rfl (by decide) (by omega) (.slice A xs.length c) xs s [.string s] (fun x => x ≠ g) (fun _ => False) rfl rfl ?aP (fun _ hk => hk.elim) ?aF ?aO ?aB ?aS ?aL ?_; (case aP => exact rfl); (case aB => exact (Below.refl _ _)); (case aF => exact (fun x hx => by have := hgl.out; simp only at this; omega)); (case aO => exact HO.out.row); (case aS => exact Nat.le_trans hS0 HO.out.bel.size); (case aL => have := HL.out; omega); intro v126 w13 hr hb hg hat; have HR2 := Aside0.mk hr; have hc13 : w13.cell? ⟨g, 0, none⟩ = some (.slice A xs.length c) := cell_grown hg hcell (fun e => HO.out.row.1 g e.symm rfl); have hf13 : w13.frozen? ⟨g, 0, none⟩ = false := (World.frozen?_of_block (hg.block g hgl.out (fun e => HO.out.row.1 g e.symm rfl))).trans hfroz; have HB2 := Aside0.mk hb; obtain ⟨A13, c13, e13⟩ := Kd.R_slice hr; subst e13; clear hr hb hg hat))
    first | go_end0 | refine bodyPost_ret (results_none rfl _ _ _) rfl ?_
    refine ⟨rfl, _, World.cell?_setCell_same' _ _ _ (by rw [hc13]; rfl), by rw [World.frozen?_setCell]; exact hf13, ?_, (HO.out.bel.trans HB2.out).setCell hSg _⟩
    have e2 : xs ++ (Lk k l 0 0 0 mg).map (fun x => s ++ strOfNums x) = xs ++ [s] := by
      simp only [Lk, List.map_cons, List.map_nil]
      congr 2
      rw [show strOfNums [] = (ByteArray.empty) from rfl, ByteArray.append_empty]
    rw [e2]
    have h_ := Kd.R_far HR2.out (p := ⟨g, 0, none⟩) (fun x hx => hx) (.slice A13 (xs.length + 1) c13)
    rw [List.length_append, List.length_singleton] at h_
    exact h_
  | succ n ih =>
    intro s a b mg W v xs ha hb hn hs hm1 hm2 hf' hx ho
    have hf : l ≤ mg + a - k * b := by rcases hf' with h | h; exact absurd h (by omega); exact h
    clear hf'
    have HO := Aside0.mk ho
    obtain ⟨A, c, rfl⟩ := Kd.R_slice ho.row
    have hcell := ho.cell
    have hlen : (xs.length : Int) ≤ 300 := by omega
    have hlb : decide ((xs.length : Int) > 300) = false := decide_eq_false (by omega)
    have hlc : decide (300 < (xs.length : Int)) = false := decide_eq_false (by omega)
    have ha40 : a ≤ 40 := by omega
    have hb40 : b ≤ 40 := by omega
    have hsum : ((a + b) == 0) = false := by simp; omega
    have hkb0 : 0 ≤ k * b := Int.mul_nonneg (by omega) hb
    have hkb1 : k * b ≤ 5 * 40 := Int.mul_le_mul hk.2 (by omega) hb (by omega)
    have hfb : decide (mg + a - k * b ≥ l) = true := decide_eq_true hf
    have hfc : decide (l ≤ mg + a - k * b) = true := decide_eq_true hf
    have hu1 : decide (mg + 1 ≥ l) = true := decide_eq_true (by omega)
    have hu2 : decide (l ≤ mg + 1) = true := decide_eq_true (by omega)
    have hsz : decide (s.size + 1 ≤ 9223372036854775807) = true := decide_eq_true (by omega)
    have hsz2 : (9223372036854775807 < s.size + 1) = False := eq_false (by omega)
    have s1 : (s ++ (⟨#[68]⟩ : ByteArray)).size + n ≤ 40 := by rw [ByteArray.size_append]; show s.size + 1 + n ≤ 40; omega
    have s2 : (s ++ (⟨#[85]⟩ : ByteArray)).size + n ≤ 40 := by rw [ByteArray.size_append]; show s.size + 1 + n ≤ 40; omega
    have HLk := Aside0.mk (show Lk k l (n + 1) a b mg = (if 0 < b ∧ l ≤ mg - k then (Lk k l n a (b - 1) (mg - k)).map (68 :: ·) else []) ++ (if 0 < a then (Lk k l n (a - 1) b (mg + 1)).map (85 :: ·) else []) from rfl)
    have mD : ∀ y : List (List Int), (y.map (68 :: ·)).map (fun x => s ++ strOfNums x) = y.map (fun x => (s ++ (⟨#[68]⟩ : ByteArray)) ++ strOfNums x) := fun y => by rw [List.map_map]; exact List.map_congr_left (fun x _ => strOf_cons s 68 68 rfl x)
    have mU : ∀ y : List (List Int), (y.map (85 :: ·)).map (fun x => s ++ strOfNums x) = y.map (fun x => (s ++ (⟨#[85]⟩ : ByteArray)) ++ strOfNums x) := fun y => by rw [List.map_map]; exact List.map_congr_left (fun x _ => strOf_cons s 85 85 rfl x)
    have HmD := Aside0.mk mD
    have HmU := Aside0.mk mU
    have Hih := Aside0.mk ih
    have Hpre := Aside0.mk (And.intro s1 s2)
    have hx' := Aside0.mk hx
    clear mD mU ih s1 s2 hx ho
    by_cases hbp : 0 < b
    · have hbb : decide (b > 0) = true := decide_eq_true hbp
      have hbc : decide (0 < b) = true := decide_eq_true hbp
      by_cases hmk : l ≤ mg - k
      · have hkb : decide (mg - k ≥ l) = true := decide_eq_true hmk
        have hkc : decide (l ≤ mg - k) = true := decide_eq_true hmk
        have hbb1 := mul_one_less k b
        have e1 := HLk.out
        rw [if_pos ⟨hbp, hmk⟩] at e1
        by_cases hap : 0 < a
        · have hab : decide (a > 0) = true := decide_eq_true hap
          have hac : decide (0 < a) = true := decide_eq_true hap
          rw [if_pos hap] at e1
          have hx2 := hx'.out
          rw [e1, List.length_append, List.length_map, List.length_map] at hx2
          have cD := Hih.out (s ++ (⟨#[68]⟩ : ByteArray)) a (b - 1) (mg - k) W _ xs ha (by omega) (by omega) Hpre.out.1 (by omega) (by omega) (.inr (by omega)) (by omega) HO.out
          have cU := fun W' v' (h : OutB g S w0 W' v' (xs ++ (Lk k l n a (b - 1) (mg - k)).map (fun x => (s ++ (⟨#[68]⟩ : ByteArray)) ++ strOfNums x))) => Hih.out (s ++ (⟨#[85]⟩ : ByteArray)) (a - 1) b (mg + 1) W' v' _ (by omega) hb (by omega) Hpre.out.2 (by omega) (by omega) (.inr (by omega)) (by rw [List.length_append, List.length_map]; omega) h
          have CU := Aside0.mk cU
          have E1 := Aside0.mk e1
          clear cU e1 hx2 hbb1 HLk hn hs
          go_enter Try.func69, Try.ntmps69
          go_wp2_with (first | (go_at_call 69; refine cD.mono ?_; clear cD; rintro e w1 ⟨rfl, v1, ho1⟩; have HO1 := Aside0.mk ho1; clear ho1) | (go_at_call 69; refine (CU.out _ _ HO1.out).mono ?_; rintro e w2 ⟨rfl, v2, ho2⟩; have HO2 := Aside0.mk ho2; clear ho2))
          first | go_end0 | refine bodyPost_ret (results_none rfl _ _ _) rfl ?_
          refine ⟨rfl, v2, ?_⟩
          rw [E1.out, List.map_append, HmD.out, HmU.out, ← List.append_assoc]
          exact HO2.out
        · have hab : decide (a > 0) = false := decide_eq_false hap
          have hac : decide (0 < a) = false := decide_eq_false hap
          rw [if_neg hap, List.append_nil] at e1
          have hx2 := hx'.out
          rw [e1, List.length_map] at hx2
          have cD := Hih.out (s ++ (⟨#[68]⟩ : ByteArray)) a (b - 1) (mg - k) W _ xs ha (by omega) (by omega) Hpre.out.1 (by omega) (by omega) (.inr (by omega)) (by omega) HO.out
          have E1 := Aside0.mk e1
          clear e1 hx2 hbb1 HLk hn hs
          go_enter Try.func69, Try.ntmps69
          go_wp2_with (first | (go_at_call 69; refine cD.mono ?_; clear cD; rintro e w1 ⟨rfl, v1, ho1⟩; have HO1 := Aside0.mk ho1; clear ho1))
          first | go_end0 | refine bodyPost_ret (results_none rfl _ _ _) rfl ?_
          refine ⟨rfl, v1, ?_⟩
          rw [E1.out, HmD.out]
          exact HO1.out
      · have hkb : decide (mg - k ≥ l) = false := decide_eq_false hmk
        have hkc : decide (l ≤ mg - k) = false := decide_eq_false hmk
        have hkk : k ≤ k * b := by have := Int.mul_le_mul_of_nonneg_left (show (1 : Int) ≤ b by omega) (show 0 ≤ k by omega); rw [Int.mul_one] at this; exact this
        have hap : 0 < a := by omega
        have hab : decide (a > 0) = true := decide_eq_true hap
        have hac : decide (0 < a) = true := decide_eq_true hap
        have e1 := HLk.out
        rw [if_neg (by omega), if_pos hap, List.nil_append] at e1
        have hx2 := hx'.out
        rw [e1, List.length_map] at hx2
        have cU := Hih.out (s ++ (⟨#[85]⟩ : ByteArray)) (a - 1) b (mg + 1) W _ xs (by omega) hb (by omega) Hpre.out.2 (by omega) (by omega) (.inr (by omega)) (by omega) HO.out
        have E1 := Aside0.mk e1
        clear e1 hx2 HLk hn hs
        go_enter Try.func69, Try.ntmps69
        go_wp2_with (first | (go_at_call 69; refine cU.mono ?_; clear cU; rintro e w1 ⟨rfl, v1, ho1⟩; have HO1 := Aside0.mk ho1; clear ho1))
        first | go_end0 | refine bodyPost_ret (results_none rfl _ _ _) rfl ?_
        refine ⟨rfl, v1, ?_⟩
        rw [E1.out, HmU.out]
        exact HO1.out
    · have hbb : decide (b > 0) = false := decide_eq_false hbp
      have hbc : decide (0 < b) = false := decide_eq_false hbp
      have hap : 0 < a := by omega
      have hab : decide (a > 0) = true := decide_eq_true hap
      have hac : decide (0 < a) = true := decide_eq_true hap
      have e1 := HLk.out
      rw [if_neg (by omega), if_pos hap, List.nil_append] at e1
      have hx2 := hx'.out
      rw [e1, List.length_map] at hx2
      have cU := Hih.out (s ++ (⟨#[85]⟩ : ByteArray)) (a - 1) b (mg + 1) W _ xs (by omega) hb (by omega) Hpre.out.2 (by omega) (by omega) (.inr (by omega)) (by omega) HO.out
      have E1 := Aside0.mk e1
      clear e1 hx2 HLk hn hs
      go_enter Try.func69, Try.ntmps69
      go_wp2_with (first | (go_at_call 69; refine cU.mono ?_; clear cU; rintro e w1 ⟨rfl, v1, ho1⟩; have HO1 := Aside0.mk ho1; clear ho1))
      first | go_end0 | refine bodyPost_ret (results_none rfl _ _ _) rfl ?_
      refine ⟨rfl, v1, ?_⟩
      rw [E1.out, HmU.out]
      exact HO1.out
set_option maxHeartbeats 16000000 in
set_option maxRecDepth 100000 in
theorem baLook_idle (g S : Nat) (w0 : World) (k l : Int) (hk : 1 ≤ k ∧ k ≤ 5) (hl : -10 ≤ l ∧ l ≤ 10) (s : ByteArray) (a b : Int) (W : World) (v : Value) (xs : List ByteArray) (ha : 0 ≤ a) (hb : 0 ≤ b) (hn : 1 ≤ a + b) (hn2 : a + b ≤ 40) (hf : ¬ l ≤ 0 + a - k * b) (hx : xs.length ≤ 300) (ho : OutB g S w0 W v xs) :
    Calls Try.prog 69 #[.string s, .int .i64 a, .int .i64 b, .int .i64 k, .int .i64 0, .int .i64 l, .pointer (some ⟨g, 0, none⟩)] W fun e w' => e = .returned (.tuple #[]) ∧ ∃ v', OutB g S w0 w' v' xs := by
  have HO := Aside0.mk ho
  obtain ⟨A, c, rfl⟩ := Kd.R_slice ho.row
  have hcell := ho.cell
  have hlb : decide ((xs.length : Int) > 300) = false := decide_eq_false (by omega)
  have hlc : decide (300 < (xs.length : Int)) = false := decide_eq_false (by omega)
  have hlen : (xs.length : Int) ≤ 300 := by omega
  have ha40 : a ≤ 40 := by omega
  have hb40 : b ≤ 40 := by omega
  have hsum : ((a + b) == 0) = false := by simp; omega
  have hkb0 : 0 ≤ k * b := Int.mul_nonneg (by omega) hb
  have hkb1 : k * b ≤ 5 * 40 := Int.mul_le_mul hk.2 (by omega) hb (by omega)
  have hfb : decide (0 + a - k * b ≥ l) = false := decide_eq_false (by omega)
  have hfc : decide (l ≤ 0 + a - k * b) = false := decide_eq_false (by omega)
  have hfd : decide (a - k * b ≥ l) = false := decide_eq_false (by omega)
  have hfe : decide (l ≤ a - k * b) = false := decide_eq_false (by omega)
  clear ho hx hn hn2 hf
  by_cases hbp : 0 < b
  · have hbb : decide (b > 0) = true := decide_eq_true hbp
    have hbc : decide (0 < b) = true := decide_eq_true hbp
    by_cases hap : 0 < a
    · have hab : decide (a > 0) = true := decide_eq_true hap
      have hac : decide (0 < a) = true := decide_eq_true hap
      go_enter Try.func69, Try.ntmps69
      go_wp2_with fail
      all_goals (go_end0; exact ⟨rfl, _, HO.out⟩)
    · have hab : decide (a > 0) = false := decide_eq_false hap
      have hac : decide (0 < a) = false := decide_eq_false hap
      go_enter Try.func69, Try.ntmps69
      go_wp2_with fail
      all_goals (go_end0; exact ⟨rfl, _, HO.out⟩)
  · have hbb : decide (b > 0) = false := decide_eq_false hbp
    have hbc : decide (0 < b) = false := decide_eq_false hbp
    by_cases hap : 0 < a
    · have hab : decide (a > 0) = true := decide_eq_true hap
      have hac : decide (0 < a) = true := decide_eq_true hap
      go_enter Try.func69, Try.ntmps69
      go_wp2_with fail
      all_goals (go_end0; exact ⟨rfl, _, HO.out⟩)
    · have hab : decide (a > 0) = false := decide_eq_false hap
      have hac : decide (0 < a) = false := decide_eq_false hap
      go_enter Try.func69, Try.ntmps69
      go_wp2_with fail
      all_goals (go_end0; exact ⟨rfl, _, HO.out⟩)
/-- What the reference's search comes to. -/
def LkTop (k l a b : Int) : List (List Int) := if a + b = 0 ∨ l ≤ a - k * b then Lk k l (a + b).toNat a b 0 else []
theorem fresh_cell (w : World) (v : Value) (t : Nat) : (w.alloc (.cells #[v] t)).cell? ⟨w.heap.size, 0, none⟩ = some v ∧ (w.alloc (.cells #[v] t)).frozen? ⟨w.heap.size, 0, none⟩ = false := by
  have h : (w.alloc (.cells #[v] t)).heap[w.heap.size]? = some (.cells #[v] t (0, 0)) := by
    show (w.heap.push _)[w.heap.size]? = _
    exact Array.getElem?_push_size
  exact ⟨cell_of_one h, free_of_one h⟩
theorem baLook.top (S : Nat) (w0 W : World) (hS : S ≤ W.heap.size) (hS0 : S ≤ w0.heap.size) (hb0 : Below S w0 W) (k l a b : Int) (hk : 1 ≤ k ∧ k ≤ 5) (hl : l = 0 ∨ l = 1) (hs : 0 ≤ a ∧ a ≤ 40 ∧ 0 ≤ b ∧ b ≤ 40 ∧ a + b ≤ 40) (hx : (LkTop k l a b).length ≤ 300) :
    Calls Try.prog 69 #[.string ⟨#[]⟩, .int .i64 a, .int .i64 b, .int .i64 k, .int .i64 0, .int .i64 l, .pointer (some ⟨W.heap.size, 0, none⟩)] (W.alloc (.cells #[.slice none 0 0] 35)) fun e w' => e = .returned (.tuple #[]) ∧ ∃ v', OutB W.heap.size S w0 w' v' ((LkTop k l a b).map strOfNums) := by
  have hc := fresh_cell W (.slice none 0 0) 35
  have ho : OutB W.heap.size S w0 (W.alloc (.cells #[.slice none 0 0] 35)) (.slice none 0 0) [] := ⟨hc.1, hc.2, Kd.R_nil _ _ _ _ _, hb0.alloc hS _⟩
  unfold LkTop at hx ⊢
  by_cases h : a + b = 0 ∨ l ≤ a - k * b
  · rw [if_pos h] at hx ⊢
    refine (baLook.calls W.heap.size S hS w0 hS0 k l hk (by omega) (a + b).toNat ⟨#[]⟩ a b 0 _ _ [] hs.1 hs.2.2.1 (by omega) (by show 0 + _ ≤ 40; omega) (by omega) (by omega) (by rcases h with h | h; exact .inl (by omega); exact .inr (by omega)) (by rw [List.length_nil]; omega) ho).mono ?_
    rintro e w' ⟨he, v', h'⟩
    refine ⟨he, v', ?_⟩
    have e2 : [] ++ (Lk k l (a + b).toNat a b 0).map (fun x => (⟨#[]⟩ : ByteArray) ++ strOfNums x) = (Lk k l (a + b).toNat a b 0).map strOfNums := by
      rw [List.nil_append]
      exact List.map_congr_left (fun x _ => ByteArray.empty_append)
    rw [e2] at h'
    exact h'
  · rw [if_neg h]
    refine (baLook_idle W.heap.size S w0 k l hk (by omega) ⟨#[]⟩ a b _ _ [] hs.1 hs.2.2.1 (by omega) (by omega) (by omega) (by simp) ho).mono ?_
    rintro e w' ⟨he, v', h'⟩
    exact ⟨he, v', h'⟩
def spec_AllNeverBehind.f (k : Nat) (a0 a1 a2 : Int) : Option (List ByteArray × Bool) := (spec_baNumbers.f a0 a1 a2).bind fun t => if t = true then ((spec_baNever.f k a0 a1 a2).bind fun q => if q > 300 then some ([], false) else if (LkTop a2 0 a0 a1).length ≤ 300 then some ((LkTop a2 0 a0 a1).map strOfNums, true) else none) else some ([], false)
theorem spec_AllNeverBehind.mono : ∀ a0 a1 a2 k, LeO (spec_AllNeverBehind.f k a0 a1 a2) (spec_AllNeverBehind.f (k + 1) a0 a1 a2) := by
  intro a0 a1 a2 k
  unfold spec_AllNeverBehind.f
  refine LeO.bind (LeO.refl _) (fun t => ?_)
  refine LeO.ite ?_ (LeO.refl _)
  exact LeO.bind (spec_baNever.mono _ _ _ _) (fun q => LeO.refl _)
theorem specvotes_of {a b k : Int} (h : spec_baNumbers.f a b k = some true) : (0 ≤ a ∧ a ≤ 40 ∧ 0 ≤ b ∧ b ≤ 40 ∧ a + b ≤ 40) ∧ (1 ≤ k ∧ k ≤ 5) := by
  unfold spec_baNumbers.f spec_paSteps.f spec_l1In.f at h
  by_cases h1 : a ≥ 0
  · by_cases h2 : a ≤ 40
    · by_cases h3 : b ≥ 0
      · by_cases h4 : b ≤ 40
        · by_cases h5 : wrap64 (a + b) ≤ 40
          · by_cases h6 : k ≥ 1
            · by_cases h7 : k ≤ 5
              · unfold wrap64 at h5; omega
              · simp [h1, h2, h3, h4, h5, h6, h7] at h
            · simp [h1, h2, h3, h4, h5, h6] at h
          · simp [h1, h2, h3, h4, h5] at h
        · simp [h1, h2, h3, h4] at h
      · simp [h1, h2, h3] at h
    · simp [h1, h2] at h
  · simp [h1] at h
set_option maxHeartbeats 8000000 in
set_option maxRecDepth 100000 in
theorem spec_AllNeverBehind.calls (k : Nat) (a0 a1 a2 : Int) (r1 : List ByteArray) (r2 : Bool) (w : World) (h : spec_AllNeverBehind.f k a0 a1 a2 = some (r1, r2)) :
    Calls Try.prog 28 #[.int .i64 a0, .int .i64 a1, .int .i64 a2] w fun e w' => ∃ v0_ : Value, e = .returned (.tuple #[v0_, .bool r2]) ∧ Kd.R Kd.string 9 w' w.heap.size (fun _ => True) v0_ r1 ∧ Below w.heap.size w w' := by
  unfold spec_AllNeverBehind.f at h
  replace h := Option.bind_eq_some_iff.mp h
  obtain ⟨t, At0, h⟩ := h
  have At := Aside0.mk At0
  cases t with
  | false =>
    clear At0
    simp only [Bool.false_eq_true, if_false, Option.some.injEq, Prod.mk.injEq] at h
    obtain ⟨rfl, rfl⟩ := h
    go_enter Try.func28, Try.ntmps28
    go_wp2_with (first | (go_at_call 64; refine (spec_baNumbers.calls a0 a1 a2 false _ At.out).mono ?_; rintro e w' ⟨rfl, ⟨nd, rfl⟩⟩))
    go_ret2
    exact ⟨_, rfl, Kd.R_nil _ _ _ _ _, by repeat (first | exact Below.refl _ _ | apply pw_below_drewN)⟩
  | true =>
    have hv := specvotes_of At0
    clear At0
    simp only [if_true] at h
    replace h := Option.bind_eq_some_iff.mp h
    obtain ⟨q, Aq0, h⟩ := h
    have Aq := Aside0.mk Aq0
    clear Aq0
    by_cases hq : q > 300
    · rw [if_pos hq] at h
      simp only [Option.some.injEq, Prod.mk.injEq] at h
      obtain ⟨rfl, rfl⟩ := h
      have hqb : decide (q > 300) = true := decide_eq_true hq
      have hqc : decide (300 < q) = true := decide_eq_true hq
      go_enter Try.func28, Try.ntmps28
      go_wp2_with (first | (go_at_call 64; refine (spec_baNumbers.calls a0 a1 a2 true _ At.out).mono ?_; rintro e w' ⟨rfl, ⟨nd, rfl⟩⟩) | (go_at_call 65; refine (spec_baNever.calls k a0 a1 a2 q _ Aq.out).mono ?_; rintro e w1 ⟨rfl, hbl⟩; have HB1 := Aside0.mk (show Below w.heap.size w w1 from (below_dn _ _ _).trans hbl); clear hbl))
      go_ret2
      exact ⟨_, rfl, Kd.R_nil _ _ _ _ _, HB1.out⟩
    · rw [if_neg hq] at h
      by_cases hlk : (LkTop a2 0 a0 a1).length ≤ 300
      · rw [if_pos hlk] at h
        simp only [Option.some.injEq, Prod.mk.injEq] at h
        obtain ⟨hr1, rfl⟩ := h
        have HR1 := Aside0.mk hr1
        have HLk := Aside0.mk hlk
        have HV := Aside0.mk hv
        have hqb : decide (q > 300) = false := decide_eq_false hq
        have hqc : decide (300 < q) = false := decide_eq_false hq
        clear hr1 hlk hv hq
        go_enter Try.func28, Try.ntmps28
        go_wp2_with (first | (go_at_call 64; refine (spec_baNumbers.calls a0 a1 a2 true _ At.out).mono ?_; rintro e w' ⟨rfl, ⟨nd, rfl⟩⟩) | (go_at_call 65; refine (spec_baNever.calls k a0 a1 a2 q _ Aq.out).mono ?_; rintro e w1 ⟨rfl, hbl⟩; have HB1 := Aside0.mk (show Below w.heap.size w w1 from (below_dn _ _ _).trans hbl); clear hbl) | (go_at_call 69; refine (baLook.top w.heap.size w w1 HB1.out.size (Nat.le_refl _) HB1.out a2 0 a0 a1 HV.out.2 (by omega) HV.out.1 HLk.out).mono ?_; rintro e w2 ⟨rfl, v2, ho2⟩; have HO2 := Aside0.mk ho2; have hc2 := ho2.cell; clear ho2))
        go_ret2
        exact ⟨v2, rfl, by rw [← HR1.out]; exact Kd.R_mono HO2.out.row (fun _ _ => trivial), HO2.out.bel⟩
      · rw [if_neg hlk] at h
        cases h

/-! ### impl_in: function 60 -/
def impl_in.f (a0 : Int) (a1 : Int) (a2 : Int) : Option (Bool) := if a1 ≤ a0 then (some (decide (a0 ≤ a2))) else (some false)
set_option maxHeartbeats 8000000 in
set_option maxRecDepth 100000 in
theorem impl_in.calls (a0 : Int) (a1 : Int) (a2 : Int) (r : Bool) (w : World) (h : impl_in.f a0 a1 a2 = some r) :
    Calls Try.prog 60 #[.int .i64 a0, .int .i64 a1, .int .i64 a2] w fun e w' => e = .returned (.bool r) ∧ Drawn0 w w' := by
  have H : (if a1 ≤ a0 then (some (decide (a0 ≤ a2))) else (some false)) = some r := h
  clear h
  by_cases c4 : a1 ≤ a0
  · rw [if_pos c4] at H
    have c4b0 : decide (a1 ≤ a0) = true := decide_eq_true c4
    clear c4
    obtain rfl := Option.some.inj H
    go_enter Try.func60, Try.ntmps60
    go_wp2
    go_ret
    exact ⟨by first | rfl | (simp; done) | (simp [*]; done), by repeat (first | exact Drawn0.refl _ | apply Drawn0.step)⟩
  · rw [if_neg c4] at H
    have c4b0 : decide (a1 ≤ a0) = false := decide_eq_false c4
    clear c4
    obtain rfl := Option.some.inj H
    go_enter Try.func60, Try.ntmps60
    go_wp2
    go_ret
    exact ⟨by first | rfl | (simp; done) | (simp [*]; done), by repeat (first | exact Drawn0.refl _ | apply Drawn0.step)⟩

/-! ### impl_areSteps: function 52 -/
def impl_areSteps.f (a0 : Int) (a1 : Int) : Option (Bool) := (impl_in.f a0 0 40).bind fun t115 => (if t115 = true then ((impl_in.f a1 0 40).bind fun t116 => (if t116 = true then (some (decide ((wrap64 (a0 + a1)) ≤ 40))) else (some false))) else (some false))
set_option maxHeartbeats 8000000 in
set_option maxRecDepth 100000 in
theorem impl_areSteps.calls (a0 : Int) (a1 : Int) (r : Bool) (w : World) (h : impl_areSteps.f a0 a1 = some r) :
    Calls Try.prog 52 #[.int .i64 a0, .int .i64 a1] w fun e w' => e = .returned (.bool r) ∧ Drawn0 w w' := by
  have H : ((impl_in.f a0 0 40).bind fun t115 => (if t115 = true then ((impl_in.f a1 0 40).bind fun t116 => (if t116 = true then (some (decide ((wrap64 (a0 + a1)) ≤ 40))) else (some false))) else (some false))) = some r := h
  clear h
  replace H := Option.bind_eq_some_iff.mp H
  obtain ⟨t115, A30, H⟩ := H
  replace H : (if t115 = true then ((impl_in.f a1 0 40).bind fun t116 => (if t116 = true then (some (decide ((wrap64 (a0 + a1)) ≤ 40))) else (some false))) else (some false)) = some r := H
  have A3 := Aside0.mk A30
  clear A30
  by_cases c4 : t115 = true
  · subst c4
    have H1 : ((impl_in.f a1 0 40).bind fun t116 => (if t116 = true then (some (decide ((wrap64 (a0 + a1)) ≤ 40))) else (some false))) = some r := by rw [if_pos rfl] at H; exact H
    clear H
    have H := H1
    clear H1
    replace H := Option.bind_eq_some_iff.mp H
    obtain ⟨t116, A50, H⟩ := H
    replace H : (if t116 = true then (some (decide ((wrap64 (a0 + a1)) ≤ 40))) else (some false)) = some r := H
    have A5 := Aside0.mk A50
    clear A50
    by_cases c6 : t116 = true
    · subst c6
      have H1 : (some (decide ((wrap64 (a0 + a1)) ≤ 40))) = some r := by rw [if_pos rfl] at H; exact H
      clear H
      have H := H1
      clear H1
      obtain rfl := Option.some.inj H
      go_enter Try.func52, Try.ntmps52
      go_wp2_with (first | ((with_reducible refine gate_callee (f := 60) rfl ?_); refine goesL_ (some 6) rfl rfl Try.func60 (by kernel_rfl) rfl #[.int .i64 a0, .int .i64 0, .int .i64 40] rfl (by (try simp only [List.map_toArray, List.map_cons, List.map_nil]); first | done | rfl | (simp only [List.length_drop, List.length_take]; rfl)) ?_; (with_reducible refine (impl_in.calls a0 0 40 true _ A3.out).mono ?_); rintro e w' ⟨rfl, ⟨nd, rfl⟩⟩; refine ⟨_, rfl, ?_⟩) | (go_at_call 60; (with_reducible refine (impl_in.calls a1 0 40 true _ A5.out).mono ?_); rintro e w' ⟨rfl, ⟨nd, rfl⟩⟩))
      go_ret
      exact ⟨by first | rfl | (simp; done) | (simp [*]; done), by repeat (first | exact Drawn0.refl _ | apply Drawn0.step)⟩
    · replace c6 := Bool.eq_false_iff.mpr c6
      subst c6
      have H1 : (some false) = some r := by rw [if_neg (show ¬ (false = true) by decide)] at H; exact H
      clear H
      have H := H1
      clear H1
      obtain rfl := Option.some.inj H
      go_enter Try.func52, Try.ntmps52
      go_wp2_with (first | ((with_reducible refine gate_callee (f := 60) rfl ?_); refine goesL_ (some 6) rfl rfl Try.func60 (by kernel_rfl) rfl #[.int .i64 a0, .int .i64 0, .int .i64 40] rfl (by (try simp only [List.map_toArray, List.map_cons, List.map_nil]); first | done | rfl | (simp only [List.length_drop, List.length_take]; rfl)) ?_; (with_reducible refine (impl_in.calls a0 0 40 true _ A3.out).mono ?_); rintro e w' ⟨rfl, ⟨nd, rfl⟩⟩; refine ⟨_, rfl, ?_⟩) | (go_at_call 60; (with_reducible refine (impl_in.calls a1 0 40 false _ A5.out).mono ?_); rintro e w' ⟨rfl, ⟨nd, rfl⟩⟩))
      go_ret
      exact ⟨by first | rfl | (simp; done) | (simp [*]; done), by repeat (first | exact Drawn0.refl _ | apply Drawn0.step)⟩
  · replace c4 := Bool.eq_false_iff.mpr c4
    subst c4
    have H1 : (some false) = some r := by rw [if_neg (show ¬ (false = true) by decide)] at H; exact H
    clear H
    have H := H1
    clear H1
    obtain rfl := Option.some.inj H
    go_enter Try.func52, Try.ntmps52
    go_wp2_with (first | ((with_reducible refine gate_callee (f := 60) rfl ?_); refine goesL_ (some 6) rfl rfl Try.func60 (by kernel_rfl) rfl #[.int .i64 a0, .int .i64 0, .int .i64 40] rfl (by (try simp only [List.map_toArray, List.map_cons, List.map_nil]); first | done | rfl | (simp only [List.length_drop, List.length_take]; rfl)) ?_; (with_reducible refine (impl_in.calls a0 0 40 false _ A3.out).mono ?_); rintro e w' ⟨rfl, ⟨nd, rfl⟩⟩; refine ⟨_, rfl, ?_⟩))
    go_ret
    exact ⟨by first | rfl | (simp; done) | (simp [*]; done), by repeat (first | exact Drawn0.refl _ | apply Drawn0.step)⟩

/-! ### impl_areVotes: function 67 -/
def impl_areVotes.f (a0 : Int) (a1 : Int) (a2 : Int) : Option (Bool) := (impl_areSteps.f a0 a1).bind fun t117 => (if t117 = true then ((impl_in.f a2 1 5).bind fun t118 => (some t118)) else (some false))
set_option maxHeartbeats 8000000 in
set_option maxRecDepth 100000 in
theorem impl_areVotes.calls (a0 : Int) (a1 : Int) (a2 : Int) (r : Bool) (w : World) (h : impl_areVotes.f a0 a1 a2 = some r) :
    Calls Try.prog 67 #[.int .i64 a0, .int .i64 a1, .int .i64 a2] w fun e w' => e = .returned (.bool r) ∧ Drawn0 w w' := by
  have H : ((impl_areSteps.f a0 a1).bind fun t117 => (if t117 = true then ((impl_in.f a2 1 5).bind fun t118 => (some t118)) else (some false))) = some r := h
  clear h
  replace H := Option.bind_eq_some_iff.mp H
  obtain ⟨t117, A40, H⟩ := H
  replace H : (if t117 = true then ((impl_in.f a2 1 5).bind fun t118 => (some t118)) else (some false)) = some r := H
  have A4 := Aside0.mk A40
  clear A40
  by_cases c5 : t117 = true
  · subst c5
    have H1 : ((impl_in.f a2 1 5).bind fun t118 => (some t118)) = some r := by rw [if_pos rfl] at H; exact H
    clear H
    have H := H1
    clear H1
    replace H := Option.bind_eq_some_iff.mp H
    obtain ⟨t118, A60, H⟩ := H
    replace H : (some t118) = some r := H
    have A6 := Aside0.mk A60
    clear A60
    obtain rfl := Option.some.inj H
    go_enter Try.func67, Try.ntmps67
    go_wp2_with (first | ((with_reducible refine gate_callee (f := 52) rfl ?_); refine goesL_ (some 9) rfl rfl Try.func52 (by kernel_rfl) rfl #[.int .i64 a0, .int .i64 a1] rfl (by (try simp only [List.map_toArray, List.map_cons, List.map_nil]); first | done | rfl | (simp only [List.length_drop, List.length_take]; rfl)) ?_; (with_reducible refine (impl_areSteps.calls a0 a1 true _ A4.out).mono ?_); rintro e w' ⟨rfl, ⟨nd, rfl⟩⟩; refine ⟨_, rfl, ?_⟩) | (go_at_call 60; (with_reducible refine (impl_in.calls a2 1 5 t118 _ A6.out).mono ?_); rintro e w' ⟨rfl, ⟨nd, rfl⟩⟩))
    go_ret
    exact ⟨by first | rfl | (simp; done) | (simp [*]; done), by repeat (first | exact Drawn0.refl _ | apply Drawn0.step)⟩
  · replace c5 := Bool.eq_false_iff.mpr c5
    subst c5
    have H1 : (some false) = some r := by rw [if_neg (show ¬ (false = true) by decide)] at H; exact H
    clear H
    have H := H1
    clear H1
    obtain rfl := Option.some.inj H
    go_enter Try.func67, Try.ntmps67
    go_wp2_with (first | ((with_reducible refine gate_callee (f := 52) rfl ?_); refine goesL_ (some 9) rfl rfl Try.func52 (by kernel_rfl) rfl #[.int .i64 a0, .int .i64 a1] rfl (by (try simp only [List.map_toArray, List.map_cons, List.map_nil]); first | done | rfl | (simp only [List.length_drop, List.length_take]; rfl)) ?_; (with_reducible refine (impl_areSteps.calls a0 a1 false _ A4.out).mono ?_); rintro e w' ⟨rfl, ⟨nd, rfl⟩⟩; refine ⟨_, rfl, ?_⟩))
    go_ret
    exact ⟨by first | rfl | (simp; done) | (simp [*]; done), by repeat (first | exact Drawn0.refl _ | apply Drawn0.step)⟩

end Go.Proofs.Ytblofikjcmjaeaa.PFnExactAllNeverBehind
