/- The walk of the statement FnExactRankOfTree: each Go function that it reaches does what the Lean function of its name says; printed by a program of this session. -/
import Derived.Test.YtblofikjcmjaeaaPFnExactRankOfTreex0
import Derived.Test.YtblofikjcmjaeaaPFnExactRankOfTreex3
namespace Go.Proofs.Ytblofikjcmjaeaa.PFnExactRankOfTree
open Go.RowKit Go.Proofs.YtblofikjcmjaeaaW.PrintWords Go.Proofs.YtblofikjcmjaeaaW.PrintLast Go.Proofs.YtblofikjcmjaeaaW.PrintMore
attribute [local go_sem] max2_int min2_int max_two min_two max_three min_three max_four min_four   -- for this text's walks alone
set_option linter.unusedVariables false
set_option linter.unusedSimpArgs false

/-! ### impl_isForest: function 103 -/
def impl_isForest.l0 : Nat → Int → Int → List Int → Int → Int → Option (Bool)
  | 0, _, _, _, _, _ => none
  | k + 1, x3, x4, x13, x14, x15 => if x15 < x14 then (if 0 ≤ x15 then (if x15 < (x13.length : Int) then (if (wrap64 (x4 + (wrap64 ((rd x13 x15) - 1)))) ≤ (wrap64 (-x3)) then (some false) else (impl_isForest.l0 k x3 (wrap64 (x4 + (wrap64 ((rd x13 x15) - 1)))) x13 x14 (wrap64 (x15 + 1)))) else (none)) else (none)) else (some (decide (x3 ≥ 1)))
def impl_isForest.f (k : Nat) (l0 : List Int) : Option (Bool) := (impl_excess.f k l0).bind fun t138 => (if 0 ≤ (wrap64 ((l0.length : Int) - 1)) then (if (wrap64 ((l0.length : Int) - 1)) ≤ (l0.length : Int) then (impl_isForest.l0 k t138 0 (l0.take ((wrap64 ((l0.length : Int) - 1)) : Int).toNat) ((l0.take ((wrap64 ((l0.length : Int) - 1)) : Int).toNat).length : Int) 0) else (none)) else (none))
theorem impl_isForest.mono_l : ∀ k, (∀ y0 y1 y2 y3 y4, LeO (impl_isForest.l0 k y0 y1 y2 y3 y4) (impl_isForest.l0 (k + 1) y0 y1 y2 y3 y4))
  | 0 => fun _ _ _ _ _ r h => by simp [impl_isForest.l0] at h
  | k + 1 => by
    have ih0 := impl_isForest.mono_l k
    · intro y0 y1 y2 y3 y4
      unfold impl_isForest.l0
      repeat' first
      | (with_reducible exact ih0 _ _ _ _ _)
      | (with_reducible exact impl_excess.mono _ _)
      | (with_reducible exact LeO.refl _)
      | (with_reducible exact LeO.none _)
      | (with_reducible refine LeO.ite ?_ ?_)
      | (with_reducible refine LeO.bind ?_ (fun _ => ?_))
      | exact ih0 _ _ _ _ _
      | exact impl_excess.mono _ _
      | exact LeO.none _
      | refine LeO.ite ?_ ?_
      | refine LeO.bind ?_ (fun _ => ?_)
theorem impl_isForest.mono : ∀ a0 k, LeO (impl_isForest.f k a0) (impl_isForest.f (k + 1) a0) := by
  intro a0 k
  have ih0 := impl_isForest.mono_l k
  unfold impl_isForest.f
  repeat' first
      | (with_reducible exact ih0 _ _ _ _ _)
      | (with_reducible exact impl_excess.mono _ _)
      | (with_reducible exact LeO.refl _)
      | (with_reducible exact LeO.none _)
      | (with_reducible refine LeO.ite ?_ ?_)
      | (with_reducible refine LeO.bind ?_ (fun _ => ?_))
      | exact ih0 _ _ _ _ _
      | exact impl_excess.mono _ _
      | exact LeO.none _
      | refine LeO.ite ?_ ?_
      | refine LeO.bind ?_ (fun _ => ?_)
set_option maxHeartbeats 8000000 in
set_option maxRecDepth 100000 in
theorem impl_isForest.calls (k : Nat) (A0 : Option Addr) (c0 : Nat) (l0 : List Int) (r : Bool) (w : World) (hr0 : Kd.C (Kd.int .i64) w A0 l0.length l0) (hc0 : l0.length ≤ c0) (h : impl_isForest.f k l0 = some r) :
    Calls Try.prog 103 #[.slice A0 l0.length c0] w fun e w' => e = .returned (.bool r) ∧ Drawn0 w w' := by
  have HR0 := Aside0.mk hr0
  have HC0 := Aside0.mk hc0
  clear hr0 hc0
  have H : ((impl_excess.f k l0).bind fun t138 => (if 0 ≤ (wrap64 ((l0.length : Int) - 1)) then (if (wrap64 ((l0.length : Int) - 1)) ≤ (l0.length : Int) then (impl_isForest.l0 k t138 0 (l0.take ((wrap64 ((l0.length : Int) - 1)) : Int).toNat) ((l0.take ((wrap64 ((l0.length : Int) - 1)) : Int).toNat).length : Int) 0) else (none)) else (none))) = some r := h
  clear h
  replace H := Option.bind_eq_some_iff.mp H
  obtain ⟨t138, A20, H⟩ := H
  replace H : (if 0 ≤ (wrap64 ((l0.length : Int) - 1)) then (if (wrap64 ((l0.length : Int) - 1)) ≤ (l0.length : Int) then (impl_isForest.l0 k t138 0 (l0.take ((wrap64 ((l0.length : Int) - 1)) : Int).toNat) ((l0.take ((wrap64 ((l0.length : Int) - 1)) : Int).toNat).length : Int) 0) else (none)) else (none)) = some r := H
  have A2 := Aside0.mk A20
  clear A20
  obtain ⟨ji3, hji3⟩ : ∃ j_ : Int, (wrap64 ((l0.length : Int) - 1)) = j_ := ⟨_, rfl⟩
  replace H : (if 0 ≤ (ji3) then (if (ji3) ≤ (l0.length : Int) then (impl_isForest.l0 k t138 0 (l0.take ((ji3) : Int).toNat) ((l0.take ((ji3) : Int).toNat).length : Int) 0) else (none)) else (none)) = some r := by first | (rw [hji3] at H; exact H) | (simp only [hji3] at H ⊢; exact H)
  (try rw [hji3] at A2)
  have hji3w : (IntKind.i64.wrap ((l0.length : Int) - 1)) = ji3 := (i64_w _).trans hji3
  by_cases c4 : 0 ≤ (ji3)
  · rw [if_pos c4] at H
    have c4b0 := eq_true c4
    have c4b1 : decide (0 ≤ (ji3)) = true := decide_eq_true c4
    clear c4
    by_cases c5 : (ji3) ≤ (l0.length : Int)
    · rw [if_pos c5] at H
      have c5b0 := eq_true c5
      have c5b1 : decide ((ji3) ≤ (l0.length : Int)) = true := decide_eq_true c5
      have LEN3 := Aside0.mk (show ((l0.take ((ji3) : Int).toNat).length : Int) = max ji3 0 from by rw [List.length_take]; omega)
      clear c5
      have H' := Aside0.mk H
      clear H
      go_enter Try.func103, Try.ntmps103
      go_wp2_with (first | ((with_reducible refine gate_callee (f := 98) rfl ?_); refine goesL_ (some 8) rfl rfl Try.func98 (by kernel_rfl) rfl #[.slice A0 l0.length c0] rfl (by (try simp only [List.map_toArray, List.map_cons, List.map_nil]); first | done | rfl | (simp only [List.length_drop, List.length_take]; rfl)) ?_; (with_reducible refine (impl_excess.calls k _ _ l0 t138 _ ?side1 ?side2 A2.out).mono ?_); (case side1 => repeat (first | exact HR0.out | (with_reducible refine Kd.C_alloc ?_ _) | (with_reducible refine Kd.C_drewN ?_ _) | (with_reducible refine Kd.C_drew ?_))); (case side2 => exact HC0.out); rintro e w' ⟨rfl, ⟨nd, rfl⟩⟩; refine ⟨_, rfl, ?_⟩; obtain ⟨i06, hi06, _, hsz6, _⟩ := info_parts info3; obtain ⟨hcut6, hA6, hC6⟩ := print_take_of (P := Try.prog) (Value.int .i64) 0 28 3 .i64 Try.underlying28 hi06 hsz6 A0 c0 l0 (ji3) (of_decide_eq_true (by first | (with_reducible assumption) | assumption)) (of_decide_eq_true (by first | (with_reducible assumption) | assumption)) HC0.out; have HR139 := Aside0.mk (Kd.C_of_reads (h1 := fun _ => rfl) (hA6 _ (Kd.reads_of_C HR0.out))); have HC139 := Aside0.mk hC6; clear hA6 hC6 hi06 hsz6))
      go_loopg [4, 15] k (fun kq v4 v15 w' => ∃ (x4_1 : Int) (x15_1 : Int), v4 = .int .i64 x4_1 ∧ v15 = .int .i64 x15_1 ∧ Aside0 (impl_isForest.l0 kq t138 x4_1 (l0.take ((ji3) : Int).toNat) ((l0.take ((ji3) : Int).toNat).length : Int) x15_1 = some r) ∧ Aside0 (kq ≤ k) ∧ Drawn0 w w')
      case atStart => exact ⟨(0), (0), (by first | rfl | (simp; done) | (simp [*]; done)), (by first | rfl | (simp; done) | (simp [*]; done)), H', ⟨Nat.le_refl _⟩, by repeat (first | exact Drawn0.refl _ | apply Drawn0.step)⟩
      case round =>
        clear H'
        try clear c1
        try clear p2
        try clear c4
        try clear c4b0
        try clear c4b1
        try clear c5
        try clear c5b0
        try clear c5b1
        try clear p6
        obtain ⟨x4_1, x15_1, rfl, rfl, HA, HK1, ⟨m1, rfl⟩⟩ := hrel
        cases gk with
        | zero => exact absurd HA.out (by simp [impl_isForest.l0])
        | succ k1 =>
          have H := HA.out
          clear HA
          simp only [impl_isForest.l0] at H
          by_cases c7 : x15_1 < ((l0.take ((ji3) : Int).toNat).length : Int)
          · rw [if_pos c7] at H
            have c7b0 : decide (x15_1 < ((l0.take ((ji3) : Int).toNat).length : Int)) = true := decide_eq_true c7
            have c7b9 : decide (x15_1 < max ji3 0) = true := by rw [← LEN3.out]; exact c7b0
            have c7b8 : (max ji3 0 ≤ x15_1) = False := eq_false (by have h_ := of_decide_eq_true c7b9; omega)
            have c7b7 : (x15_1 < max ji3 0) = True := eq_true (of_decide_eq_true c7b9)
            clear c7
            by_cases c8 : 0 ≤ x15_1
            · rw [if_pos c8] at H
              have c8b0 : decide (0 ≤ x15_1) = true := decide_eq_true c8
              clear c8
              by_cases c9 : x15_1 < ((l0.take ((ji3) : Int).toNat).length : Int)
              · rw [if_pos c9] at H
                have c9b0 : decide (x15_1 < ((l0.take ((ji3) : Int).toNat).length : Int)) = true := decide_eq_true c9
                have c9b9 : decide (x15_1 < max ji3 0) = true := by rw [← LEN3.out]; exact c9b0
                have c9b8 : (max ji3 0 ≤ x15_1) = False := eq_false (by have h_ := of_decide_eq_true c9b9; omega)
                have c9b7 : (x15_1 < max ji3 0) = True := eq_true (of_decide_eq_true c9b9)
                clear c9
                by_cases c10 : (wrap64 (x4_1 + (wrap64 ((rd (l0.take ((ji3) : Int).toNat) x15_1) - 1)))) ≤ (wrap64 (-t138))
                · rw [if_pos c10] at H
                  have c10b0 : decide ((wrap64 (x4_1 + (wrap64 ((rd (l0.take ((ji3) : Int).toNat) x15_1) - 1)))) ≤ (wrap64 (-t138))) = true := decide_eq_true c10
                  clear c10
                  obtain rfl := Option.some.inj H
                  have p140 : 0 ≤ (x15_1 : Int) := of_decide_eq_true (by first | (with_reducible assumption) | assumption)
                  have q140 : x15_1 < ((l0.take ((ji3) : Int).toNat).length : Int) := of_decide_eq_true (by first | (with_reducible assumption) | assumption)
                  obtain ⟨ad140, e140, hx140_0⟩ := Kd.at_int HR139.out x15_1 p140 q140
                  cases e140
                  replace p140 := eq_true p140
                  replace q140 := eq_true q140
                  go_wp2
                  go_ret
                  exact ⟨by first | rfl | (simp; done) | (simp only [← hji3] <;> (first | rfl | simp)) | (simp [*]; done), by repeat (first | exact Drawn0.refl _ | apply Drawn0.step)⟩
                · rw [if_neg c10] at H
                  have c10b0 : decide ((wrap64 (x4_1 + (wrap64 ((rd (l0.take ((ji3) : Int).toNat) x15_1) - 1)))) ≤ (wrap64 (-t138))) = false := decide_eq_false c10
                  clear c10
                  have H' := Aside0.mk H
                  clear H
                  have p140 : 0 ≤ (x15_1 : Int) := of_decide_eq_true (by first | (with_reducible assumption) | assumption)
                  have q140 : x15_1 < ((l0.take ((ji3) : Int).toNat).length : Int) := of_decide_eq_true (by first | (with_reducible assumption) | assumption)
                  obtain ⟨ad140, e140, hx140_0⟩ := Kd.at_int HR139.out x15_1 p140 q140
                  cases e140
                  replace p140 := eq_true p140
                  replace q140 := eq_true q140
                  go_wp2
                  go_roundg k1
                  case measure => have := HK1.out; omega
                  case rel => exact ⟨(wrap64 (x4_1 + (wrap64 ((rd (l0.take ((ji3) : Int).toNat) x15_1) - 1)))), (wrap64 (x15_1 + 1)), (by first | rfl | (simp; done) | (simp only [← hji3] <;> (first | rfl | simp)) | (simp [*]; done)), (by first | rfl | (simp; done) | (simp [*]; done)), H', ⟨by have := HK1.out; omega⟩, by repeat (first | exact Drawn0.refl _ | apply Drawn0.step)⟩
              · rw [if_neg c9] at H
                exact absurd H (by simp)
            · rw [if_neg c8] at H
              exact absurd H (by simp)
          · rw [if_neg c7] at H
            have c7b0 : decide (x15_1 < ((l0.take ((ji3) : Int).toNat).length : Int)) = false := decide_eq_false c7
            have c7b9 : decide (x15_1 < max ji3 0) = false := by rw [← LEN3.out]; exact c7b0
            clear c7
            obtain rfl := Option.some.inj H
            go_wp2
            go_ret
            exact ⟨by first | rfl | (simp; done) | (simp only [← hji3] <;> (first | rfl | simp)) | (simp [*]; done), by repeat (first | exact Drawn0.refl _ | apply Drawn0.step)⟩
    · rw [if_neg c5] at H
      exact absurd H (by simp)
  · rw [if_neg c4] at H
    exact absurd H (by simp)

/-! ### impl_areForest: function 97 -/
def impl_areForest.f (k : Nat) (l0 : List Int) : Option (Bool) := (impl_IsDegrees.f k l0).bind fun t141 => (if t141 = true then ((impl_isForest.f k l0).bind fun t142 => (some t142)) else (some false))
theorem impl_areForest.mono : ∀ a0 k, LeO (impl_areForest.f k a0) (impl_areForest.f (k + 1) a0) := by
  intro a0 k
  unfold impl_areForest.f
  repeat' first
      | (with_reducible exact impl_IsDegrees.mono _ _)
      | (with_reducible exact impl_isForest.mono _ _)
      | (with_reducible exact LeO.refl _)
      | (with_reducible exact LeO.none _)
      | (with_reducible refine LeO.ite ?_ ?_)
      | (with_reducible refine LeO.bind ?_ (fun _ => ?_))
      | exact impl_IsDegrees.mono _ _
      | exact impl_isForest.mono _ _
      | exact LeO.none _
      | refine LeO.ite ?_ ?_
      | refine LeO.bind ?_ (fun _ => ?_)
set_option maxHeartbeats 8000000 in
set_option maxRecDepth 100000 in
theorem impl_areForest.calls (k : Nat) (A0 : Option Addr) (c0 : Nat) (l0 : List Int) (r : Bool) (w : World) (hr0 : Kd.C (Kd.int .i64) w A0 l0.length l0) (hc0 : l0.length ≤ c0) (h : impl_areForest.f k l0 = some r) :
    Calls Try.prog 97 #[.slice A0 l0.length c0] w fun e w' => e = .returned (.bool r) ∧ Drawn0 w w' := by
  have HR0 := Aside0.mk hr0
  have HC0 := Aside0.mk hc0
  clear hr0 hc0
  have H : ((impl_IsDegrees.f k l0).bind fun t141 => (if t141 = true then ((impl_isForest.f k l0).bind fun t142 => (some t142)) else (some false))) = some r := h
  clear h
  replace H := Option.bind_eq_some_iff.mp H
  obtain ⟨t141, A20, H⟩ := H
  replace H : (if t141 = true then ((impl_isForest.f k l0).bind fun t142 => (some t142)) else (some false)) = some r := H
  have A2 := Aside0.mk A20
  clear A20
  by_cases c3 : t141 = true
  · subst c3
    have H1 : ((impl_isForest.f k l0).bind fun t142 => (some t142)) = some r := by rw [if_pos rfl] at H; exact H
    clear H
    have H := H1
    clear H1
    replace H := Option.bind_eq_some_iff.mp H
    obtain ⟨t142, A40, H⟩ := H
    replace H : (some t142) = some r := H
    have A4 := Aside0.mk A40
    clear A40
    obtain rfl := Option.some.inj H
    go_enter Try.func97, Try.ntmps97
    go_wp2_with (first | ((with_reducible refine gate_callee (f := 102) rfl ?_); refine goesL_ (some 4) rfl rfl Try.func102 (by kernel_rfl) rfl #[.slice A0 l0.length c0] rfl (by (try simp only [List.map_toArray, List.map_cons, List.map_nil]); first | done | rfl | (simp only [List.length_drop, List.length_take]; rfl)) ?_; (with_reducible refine (impl_IsDegrees.calls k _ _ l0 true _ ?side1 ?side2 A2.out).mono ?_); (case side1 => repeat (first | exact HR0.out | (with_reducible refine Kd.C_alloc ?_ _) | (with_reducible refine Kd.C_drewN ?_ _) | (with_reducible refine Kd.C_drew ?_))); (case side2 => exact HC0.out); rintro e w' ⟨rfl, ⟨nd, rfl⟩⟩; refine ⟨_, rfl, ?_⟩) | (go_at_call 103; (with_reducible refine (impl_isForest.calls k _ _ l0 t142 _ ?side1 ?side2 A4.out).mono ?_); (case side1 => repeat (first | exact HR0.out | (with_reducible refine Kd.C_alloc ?_ _) | (with_reducible refine Kd.C_drewN ?_ _) | (with_reducible refine Kd.C_drew ?_))); (case side2 => exact HC0.out); rintro e w' ⟨rfl, ⟨nd, rfl⟩⟩))
    go_ret
    exact ⟨by first | rfl | (simp; done) | (simp [*]; done), by repeat (first | exact Drawn0.refl _ | apply Drawn0.step)⟩
  · replace c3 := Bool.eq_false_iff.mpr c3
    subst c3
    have H1 : (some false) = some r := by rw [if_neg (show ¬ (false = true) by decide)] at H; exact H
    clear H
    have H := H1
    clear H1
    obtain rfl := Option.some.inj H
    go_enter Try.func97, Try.ntmps97
    go_wp2_with (first | ((with_reducible refine gate_callee (f := 102) rfl ?_); refine goesL_ (some 4) rfl rfl Try.func102 (by kernel_rfl) rfl #[.slice A0 l0.length c0] rfl (by (try simp only [List.map_toArray, List.map_cons, List.map_nil]); first | done | rfl | (simp only [List.length_drop, List.length_take]; rfl)) ?_; (with_reducible refine (impl_IsDegrees.calls k _ _ l0 false _ ?side1 ?side2 A2.out).mono ?_); (case side1 => repeat (first | exact HR0.out | (with_reducible refine Kd.C_alloc ?_ _) | (with_reducible refine Kd.C_drewN ?_ _) | (with_reducible refine Kd.C_drew ?_))); (case side2 => exact HC0.out); rintro e w' ⟨rfl, ⟨nd, rfl⟩⟩; refine ⟨_, rfl, ?_⟩))
    go_ret
    exact ⟨by first | rfl | (simp; done) | (simp [*]; done), by repeat (first | exact Drawn0.refl _ | apply Drawn0.step)⟩

/-! ### impl_isTree: function 77 -/
def impl_isTree.f (k : Nat) (l0 : List Int) : Option (Bool) := (impl_areForest.f k l0).bind fun t143 => (if t143 = true then ((impl_excess.f k l0).bind fun t144 => (some (t144 == 1))) else (some false))
theorem impl_isTree.mono : ∀ a0 k, LeO (impl_isTree.f k a0) (impl_isTree.f (k + 1) a0) := by
  intro a0 k
  unfold impl_isTree.f
  repeat' first
      | (with_reducible exact impl_areForest.mono _ _)
      | (with_reducible exact impl_excess.mono _ _)
      | (with_reducible exact LeO.refl _)
      | (with_reducible exact LeO.none _)
      | (with_reducible refine LeO.ite ?_ ?_)
      | (with_reducible refine LeO.bind ?_ (fun _ => ?_))
      | exact impl_areForest.mono _ _
      | exact impl_excess.mono _ _
      | exact LeO.none _
      | refine LeO.ite ?_ ?_
      | refine LeO.bind ?_ (fun _ => ?_)
set_option maxHeartbeats 8000000 in
set_option maxRecDepth 100000 in
theorem impl_isTree.calls (k : Nat) (A0 : Option Addr) (c0 : Nat) (l0 : List Int) (r : Bool) (w : World) (hr0 : Kd.C (Kd.int .i64) w A0 l0.length l0) (hc0 : l0.length ≤ c0) (h : impl_isTree.f k l0 = some r) :
    Calls Try.prog 77 #[.slice A0 l0.length c0] w fun e w' => e = .returned (.bool r) ∧ Drawn0 w w' := by
  have HR0 := Aside0.mk hr0
  have HC0 := Aside0.mk hc0
  clear hr0 hc0
  have H : ((impl_areForest.f k l0).bind fun t143 => (if t143 = true then ((impl_excess.f k l0).bind fun t144 => (some (t144 == 1))) else (some false))) = some r := h
  clear h
  replace H := Option.bind_eq_some_iff.mp H
  obtain ⟨t143, A20, H⟩ := H
  replace H : (if t143 = true then ((impl_excess.f k l0).bind fun t144 => (some (t144 == 1))) else (some false)) = some r := H
  have A2 := Aside0.mk A20
  clear A20
  by_cases c3 : t143 = true
  · subst c3
    have H1 : ((impl_excess.f k l0).bind fun t144 => (some (t144 == 1))) = some r := by rw [if_pos rfl] at H; exact H
    clear H
    have H := H1
    clear H1
    replace H := Option.bind_eq_some_iff.mp H
    obtain ⟨t144, A40, H⟩ := H
    replace H : (some (t144 == 1)) = some r := H
    have A4 := Aside0.mk A40
    clear A40
    obtain rfl := Option.some.inj H
    go_enter Try.func77, Try.ntmps77
    go_wp2_with (first | ((with_reducible refine gate_callee (f := 97) rfl ?_); refine goesL_ (some 4) rfl rfl Try.func97 (by kernel_rfl) rfl #[.slice A0 l0.length c0] rfl (by (try simp only [List.map_toArray, List.map_cons, List.map_nil]); first | done | rfl | (simp only [List.length_drop, List.length_take]; rfl)) ?_; (with_reducible refine (impl_areForest.calls k _ _ l0 true _ ?side1 ?side2 A2.out).mono ?_); (case side1 => repeat (first | exact HR0.out | (with_reducible refine Kd.C_alloc ?_ _) | (with_reducible refine Kd.C_drewN ?_ _) | (with_reducible refine Kd.C_drew ?_))); (case side2 => exact HC0.out); rintro e w' ⟨rfl, ⟨nd, rfl⟩⟩; refine ⟨_, rfl, ?_⟩) | (go_at_call 98; (with_reducible refine (impl_excess.calls k _ _ l0 t144 _ ?side1 ?side2 A4.out).mono ?_); (case side1 => repeat (first | exact HR0.out | (with_reducible refine Kd.C_alloc ?_ _) | (with_reducible refine Kd.C_drewN ?_ _) | (with_reducible refine Kd.C_drew ?_))); (case side2 => exact HC0.out); rintro e w' ⟨rfl, ⟨nd, rfl⟩⟩))
    go_ret
    exact ⟨by first | rfl | (simp; done) | (simp [*]; done), by repeat (first | exact Drawn0.refl _ | apply Drawn0.step)⟩
  · replace c3 := Bool.eq_false_iff.mpr c3
    subst c3
    have H1 : (some false) = some r := by rw [if_neg (show ¬ (false = true) by decide)] at H; exact H
    clear H
    have H := H1
    clear H1
    obtain rfl := Option.some.inj H
    go_enter Try.func77, Try.ntmps77
    go_wp2_with (first | ((with_reducible refine gate_callee (f := 97) rfl ?_); refine goesL_ (some 4) rfl rfl Try.func97 (by kernel_rfl) rfl #[.slice A0 l0.length c0] rfl (by (try simp only [List.map_toArray, List.map_cons, List.map_nil]); first | done | rfl | (simp only [List.length_drop, List.length_take]; rfl)) ?_; (with_reducible refine (impl_areForest.calls k _ _ l0 false _ ?side1 ?side2 A2.out).mono ?_); (case side1 => repeat (first | exact HR0.out | (with_reducible refine Kd.C_alloc ?_ _) | (with_reducible refine Kd.C_drewN ?_ _) | (with_reducible refine Kd.C_drew ?_))); (case side2 => exact HC0.out); rintro e w' ⟨rfl, ⟨nd, rfl⟩⟩; refine ⟨_, rfl, ?_⟩))
    go_ret
    exact ⟨by first | rfl | (simp; done) | (simp [*]; done), by repeat (first | exact Drawn0.refl _ | apply Drawn0.step)⟩

/-! ### impl_RankOfTree: function 39 -/
/-- The text of a rank, n steps being left. -/
def tb (F : Int → Int → Int) : Nat → Int → Int → Int → List Int → List Int
  | 0, _, _, _, out => out
  | n + 1, u, d, r, out => if r < F u (d + 1) then tb F n u (d + 1) r (out ++ [68]) else tb F n (u + 1) d (r - F u (d + 1)) (out ++ [85])
theorem grown_trans {a b c : World} {m : Option Nat} (h : a.grownBy b m) (k : b.grownBy c m) : a.grownBy c m :=
  ⟨k.os.trans h.os, k.tape.trans h.tape, k.output.trans h.output, Nat.le_trans h.size k.size, fun i hi hm => (k.block i (Nat.lt_of_lt_of_le hi h.size) hm).trans (h.block i hi hm)⟩
theorem grown_drewN {a b : World} {m : Option Nat} (h : a.grownBy b m) (n : Nat) : a.grownBy (b.drewN n) m := ⟨h.os, h.tape, h.output, h.size, h.block⟩
theorem grown_below {a b c : World} {m : Option Nat} (h : a.grownBy b m) (k : Below a.heap.size b c) : a.grownBy c m :=
  ⟨k.os.trans h.os, k.tape.trans h.tape, k.output.trans h.output, Nat.le_trans h.size k.size, fun i hi hm => (k.block i hi).trans (h.block i hi hm)⟩
/-- What a closure over two whole numbers does: it hands back F u d; of the old blocks m alone turns; I is kept. -/
structure Clos (P : Program) (g : Nat) (lb : Array Value) (F : Int → Int → Int) (S : Nat) (m : Option Nat) (I : World → Prop) : Prop where
  eg : ∀ args w, (callFunc g args).run P w = .ok (.enter g args) w
  call : ∀ W u d, 0 ≤ u → u ≤ 41 → 0 ≤ d → d ≤ 41 → I W → Calls P g (#[.int .i64 u, .int .i64 d] ++ lb) W fun e W' => e = .returned (.int .i64 (F u d)) ∧ I W' ∧ W.grownBy W' m
  keep : ∀ W W', I W → Below S W W' → I W'
  turn : ∀ k, m = some k → k < S
  nn : ∀ u d, 0 ≤ F u d
  le : ∀ u d, F u d ≤ 1152921504606846976
theorem Clos.later {P : Program} {g : Nat} {lb : Array Value} {F : Int → Int → Int} {S S' : Nat} {m : Option Nat} {I : World → Prop} (h : Clos P g lb F S m I) (hS : S ≤ S') : Clos P g lb F S' m I :=
  ⟨h.eg, h.call, fun W W' hI hb => h.keep W W' hI (hb.mono hS), fun k hk => Nat.lt_of_lt_of_le (h.turn k hk) hS, h.nn, h.le⟩
theorem R_turn {α : Type} {d : Kd α} {e : Nat} {w w1 : World} {base : Nat} {ok : Nat → Prop} {v : Value} {xs : List α} {m : Option Nat} (h : d.R e w base ok v xs) (hg : w.grownBy w1 m) (hm : ∀ k, m = some k → k < base) : d.R e w1 base ok v xs :=
  Kd.R_mono (Kd.R_move (Kd.R_bound h) (fun k hk => hg.block k hk.2.2.1 (fun e => by have := hm k e.symm; omega))) (fun _ hk => hk.1)
theorem below_dn (B : Nat) (w : World) (n : Nat) : Below B w (w.drewN n) := ⟨rfl, rfl, rfl, Nat.le_refl _, fun _ _ => rfl⟩
theorem below_of_grown {B : Nat} {w w1 : World} {row : Option Nat} (hg : w.grownBy w1 row) (hB : B ≤ w.heap.size) (hr : ∀ k, row = some k → B ≤ k) : Below B w w1 := (Below.refl B w).grown hg hB hr
/-- A key [u, d]. -/
def kv (u d : Int) : Value := .agg #[.int .i64 u, .int .i64 d]
def ents : DataW Unit → List (Lit × DataW Unit)
  | .map es => es
  | _ => []
/-- Each entry of the map, at a key [u, d], is F u d. -/
def Good (P : Program) (K : Nat) (F : Int → Int → Int) (D : DataW Unit) : Prop :=
  ∀ p ∈ ents D, ∃ u d : Nat, u < 42 ∧ d < 42 ∧ keyOf P K (kv u d) = some p.1 ∧ p.2 = .lit (.int .i64 (F u d))
/-- Block m is such a map. -/
def Memo (P : Program) (K E m : Nat) (F : Int → Int → Int) (w : World) : Prop :=
  ∃ D : DataW Unit, w.ownsMap P K (plainElem P E) m (Maps.size D) D ∧ Good P K F D
theorem nodup_len {α : Type} [DecidableEq α] : ∀ (l B : List α), l.Pairwise (· ≠ ·) → (∀ x ∈ l, x ∈ B) → l.length ≤ B.length
  | [], _, _, _ => Nat.zero_le _
  | x :: l, B, hn, hs => by
    obtain ⟨h1, h2⟩ := List.pairwise_cons.1 hn
    have hx := hs x List.mem_cons_self
    have := nodup_len l (B.erase x) h2 (fun y hy => (List.mem_erase_of_ne (fun e => h1 y hy e.symm)).2 (hs y (List.mem_cons_of_mem _ hy)))
    rw [List.length_erase_of_mem hx] at this
    have hp := List.length_pos_of_mem hx
    simp only [List.length_cons]; omega
theorem ownsMap_tight {P : Program} {k b n : Nat} {R : Value → Option (DataW Unit × List MemPlace)} {w : World} {D : DataW Unit} (h : w.ownsMap P k R b n D) : w.ownsMap P k R b (Maps.size D) D := by
  obtain ⟨es, clock, hb, F, hs, rfl⟩ := h
  exact ⟨es, clock, hb, F, by simp [Maps.size, length_sorted], rfl⟩
theorem Good.size {P : Program} {K E m n : Nat} {F : Int → Int → Int} {w : World} {D : DataW Unit} (law : Maps.Keyed P K) (ho : w.ownsMap P K (plainElem P E) m n D) (h : Good P K F D) : Maps.size D ≤ 1764 := by
  obtain ⟨es, rfl, hp⟩ := ho.tidy law
  have hB : ∀ x ∈ es.map (fun p => some p.1), x ∈ (List.range 1764).map (fun i => keyOf P K (kv ((i / 42 : Nat) : Int) ((i % 42 : Nat) : Int))) := by
    intro x hx
    obtain ⟨p, hpm, rfl⟩ := List.mem_map.1 hx
    obtain ⟨u, d, hu, hd, hk, _⟩ := h p hpm
    refine List.mem_map.2 ⟨u * 42 + d, List.mem_range.2 (by omega), ?_⟩
    rw [show (u * 42 + d) / 42 = u from by omega, show (u * 42 + d) % 42 = d from by omega]
    exact hk
  letI : DecidableEq (Option Lit) := fun a b => Classical.propDecidable (a = b)
  have := nodup_len (es.map (fun p => some p.1)) _ ((List.pairwise_map).2 (hp.imp (fun hne e => hne (Option.some.inj e)))) hB
  simpa [Maps.size] using this
theorem Good.hit {P : Program} {K : Nat} {F : Int → Int → Int} {D : DataW Unit} (law : Maps.Keyed P K) (h : Good P K F D) {u d : Nat} {kl : Lit} (hk : keyOf P K (kv u d) = some kl) (hh : Maps.has D kl = true) {c : Int} (hat : D.atKey kl (.lit (.int .i64 0)) = .lit (.int .i64 c)) : c = F u d := by
  cases D <;> try (simp [Maps.has] at hh; done)
  rename_i es
  simp only [Maps.has, List.any_eq_true] at hh
  have hf : ∃ p, es.find? (fun p => p.1.sameKey kl) = some p := by
    obtain ⟨p, hp, hs⟩ := hh
    cases hfe : es.find? (fun p => p.1.sameKey kl) with
    | some q => exact ⟨q, rfl⟩
    | none => exact absurd hs (by simpa using List.find?_eq_none.1 hfe p hp)
  obtain ⟨p, hp⟩ := hf
  have hs := List.find?_some hp
  have hm := List.mem_of_find?_eq_some hp
  simp only [DataW.atKey, hp] at hat
  obtain ⟨u', d', _, _, hk', hv⟩ := h p hm
  have e : p.1 = kl := Go.WideAt.sameKey_eq hs
  rw [e] at hk'
  have := law.inj hk hk'
  simp only [kv, Value.agg.injEq, Array.mk.injEq, List.cons.injEq, Value.int.injEq, true_and, and_true] at this
  obtain ⟨h1, h2⟩ := this
  rw [hv] at hat
  injection hat with hat
  injection hat with _ hat
  rw [← hat, h1, h2]
theorem Good.put {P : Program} {K : Nat} {F : Int → Int → Int} {D : DataW Unit} (hD : Maps.IsMap D) (h : Good P K F D) {u d : Nat} (hu : u < 42) (hd : d < 42) {kl : Lit} (hk : keyOf P K (kv u d) = some kl) : Good P K F (D.put kl (.lit (.int .i64 (F u d)))) := by
  obtain ⟨es, rfl⟩ := hD
  intro p hp
  simp only [DataW.put, ents] at hp
  rcases Go.ChangeMaps.mem_insert_iff.1 hp with rfl | hp
  · exact ⟨u, d, hu, hd, hk, rfl⟩
  · exact h p (List.mem_filter.1 hp).1
theorem Memo.made (P : Program) (K E : Nat) (F : Int → Int → Int) (w : World) : Memo P K E w.heap.size F (w.alloc (.map #[] 0)) :=
  ⟨.map [], World.ownsMap_made _ _ _ _, fun p hp => by simp [ents] at hp⟩
theorem Memo.kept {P : Program} {K E m : Nat} {F : Int → Int → Int} {w w' : World} {row : Option Nat} (h : Memo P K E m F w) (hg : w.grownBy w' row) (hne : some m ≠ row) : Memo P K E m F w' := by
  obtain ⟨D, ho, hd⟩ := h
  exact ⟨D, ho.kept hg hne, hd⟩
theorem Memo.below {P : Program} {K E m S : Nat} {F : Int → Int → Int} {w w' : World} (h : Memo P K E m F w) (hb : Below S w w') (hm : m < S) : Memo P K E m F w' := by
  obtain ⟨D, ⟨es, clock, h1, r⟩, hd⟩ := h
  exact ⟨D, ⟨es, clock, (hb.block m hm).trans h1, r⟩, hd⟩
theorem Memo.put {P : Program} {K E m n : Nat} {F : Int → Int → Int} {w' : World} {D' : DataW Unit} (ho : w'.ownsMap P K (plainElem P E) m n D') (hg : Good P K F D') : Memo P K E m F w' := ⟨D', ownsMap_tight ho, hg⟩
theorem Memo.lt {P : Program} {K E m : Nat} {F : Int → Int → Int} {w : World} (h : Memo P K E m F w) : m < w.heap.size := by
  obtain ⟨D, ho, _⟩ := h
  exact ho.lt
theorem wideK : (match Try.prog.underlying 69 with | some (.array _ _) | some (.struct _) => true | _ => false) = true := by rw [Try.underlying69]
theorem laidK : laidOutB Try.prog = true := by kernel_rfl
theorem lawK : Maps.Keyed Try.prog 69 := Maps.Keyed.of_law (deep_law_laid laidK (m := 2) (by omega) (of_decide_eq_true (by kernel_rfl)) (by kernel_rfl) wideK)
theorem zeroE (w : World) : (zeroValue 3).run Try.prog w = .ok (.int .i64 0) w := by kernel_rfl
theorem keyK (u d : Nat) (hu : u < 42) (hd : d < 42) : ∃ kl, keyOf Try.prog 69 (kv u d) = some kl := by
  have h1 : (Lit.int .i64 (u : Int)).wf = true := WalkArith.wf_i64 (by omega)
  have h2 : (Lit.int .i64 (d : Int)).wf = true := WalkArith.wf_i64 (by omega)
  have h3 : Try.prog.keyType 69 = true := by kernel_rfl
  have h4 : Try.prog.cellsOf 69 = 2 := by kernel_rfl
  have h5 : Try.prog.cellsOf 3 = 1 := by kernel_rfl
  have h6 : ∃ n, Try.prog.types.size = n + 1 := by
    refine ⟨Try.prog.types.size - 1, ?_⟩
    have : 0 < Try.prog.types.size := of_decide_eq_true (by kernel_rfl)
    omega
  obtain ⟨n, h6⟩ := h6
  have hf : (kv (u : Int) (d : Int)).formed Try.prog 69 = true := by simp [kv, Value.formed, Try.underlying69, h4]
  unfold keyOf
  rw [Try.underlying69]
  simp only [h3, hf, Bool.and_self, if_true, h6]
  simp [Program.keyLits, Try.underlying69, Try.underlying3, h4, h5, kv, Value.cells, h1, h2, List.range_succ]
theorem cell_one_two (w : World) (x y : Value) (t : Nat) : (w.alloc (.cells #[x, y] t)).cell? ⟨w.heap.size, 0, none⟩ = some x ∧ (w.alloc (.cells #[x, y] t)).cell? ⟨w.heap.size, 1, none⟩ = some y := ⟨World.cell?_alloc_at _ _ _ _ rfl, World.cell?_alloc_at _ _ _ _ rfl⟩
theorem w41 (x : Nat) (h : x ≤ 41) : IntKind.i64.wrap ((x : Int) + 1) = (x : Int) + 1 := by rw [IntKind.wrap_i64]; omega
/-- The captured variables. -/
structure OnP where
  p0 : Nat
  p1 : Nat
  p2 : Nat
  p3 : Nat
  p4 : Nat
  p5 : Nat
  m : Nat
  v0 : Int
  v1 : Int
  v2 : Int
  v3 : Int
def OnP.lb (p : OnP) : Array Value := #[.pointer (some ⟨p.p0, 0, none⟩), .pointer (some ⟨p.p1, 0, none⟩), .pointer (some ⟨p.p2, 0, none⟩), .pointer (some ⟨p.p3, 0, none⟩), .pointer (some ⟨p.p4, 0, none⟩), .pointer (some ⟨p.p5, 0, none⟩)]
structure OnP.Ok (p : OnP) (S : Nat) : Prop where
  s0 : p.p0 < S
  s1 : p.p1 < S
  s2 : p.p2 < S
  s3 : p.p3 < S
  s4 : p.p4 < S
  s5 : p.p5 < S
  sm : p.m < S
  n0 : p.p0 ≠ p.m
  n1 : p.p1 ≠ p.m
  n2 : p.p2 ≠ p.m
  n3 : p.p3 ≠ p.m
  n4 : p.p4 ≠ p.m
  n5 : p.p5 ≠ p.m
/-- What the closure finds. -/
structure OnI (N : Nat) (p : OnP) (F : Int → Int → Int) (w : World) : Prop where
  c0 : w.cell? ⟨p.p0, 0, none⟩ = some (.int .i64 p.v0)
  c1 : w.cell? ⟨p.p1, 0, none⟩ = some (.int .i64 p.v1)
  c2 : w.cell? ⟨p.p2, 0, none⟩ = some (.int .i64 p.v2)
  c3 : w.cell? ⟨p.p3, 0, none⟩ = some (.int .i64 p.v3)
  c4 : w.cell? ⟨p.p4, 0, none⟩ = some (.map (some p.m))
  c5 : w.cell? ⟨p.p5, 0, none⟩ = some (.func (.func N) #[] p.lb)
  mm : Memo Try.prog 69 3 p.m F w
theorem OnI.kept {N S : Nat} {p : OnP} {F : Int → Int → Int} {w w' : World} (h : OnI N p F w) (hp : p.Ok S) (hg : w.grownBy w' (some p.m)) (hm : Memo Try.prog 69 3 p.m F w') : OnI N p F w' :=
  ⟨cell_grown hg h.c0 (fun e => hp.n0 (Option.some.inj e)), cell_grown hg h.c1 (fun e => hp.n1 (Option.some.inj e)), cell_grown hg h.c2 (fun e => hp.n2 (Option.some.inj e)), cell_grown hg h.c3 (fun e => hp.n3 (Option.some.inj e)), cell_grown hg h.c4 (fun e => hp.n4 (Option.some.inj e)), cell_grown hg h.c5 (fun e => hp.n5 (Option.some.inj e)), hm⟩
theorem OnI.below {N S : Nat} {p : OnP} {F : Int → Int → Int} {w w' : World} (h : OnI N p F w) (hp : p.Ok S) (hb : Below S w w') : OnI N p F w' :=
  ⟨(hb.cell hp.s0).trans h.c0, (hb.cell hp.s1).trans h.c1, (hb.cell hp.s2).trans h.c2, (hb.cell hp.s3).trans h.c3, (hb.cell hp.s4).trans h.c4, (hb.cell hp.s5).trans h.c5, h.mm.below hb hp.sm⟩
/-- What is asked of the count. -/
structure OnF (out : Int → Int → Prop) [∀ u d, Decidable (out u d)] (a b : Int) (F : Int → Int → Int) : Prop where
  nn : ∀ u d, 0 ≤ F u d
  le : ∀ u d, F u d ≤ 1152921504606846976
  eq : ∀ u d, 0 ≤ u → u ≤ 41 → 0 ≤ d → d ≤ 41 → F u d = if u > a ∨ d > b ∨ out u d then 0 else if u = a ∧ d = b then 1 else F (u + 1) d + F u (d + 1)
/-- The captured variables: the table's and the function's own. -/
structure TrP where
  p4 : Nat
  p5 : Nat
  m : Nat
def TrP.lb (p : TrP) : Array Value := #[.pointer (some ⟨p.p4, 0, none⟩), .pointer (some ⟨p.p5, 0, none⟩)]
structure TrP.Ok (p : TrP) (S : Nat) : Prop where
  s4 : p.p4 < S
  s5 : p.p5 < S
  sm : p.m < S
  n4 : p.p4 ≠ p.m
  n5 : p.p5 ≠ p.m
structure TrI (p : TrP) (F : Int → Int → Int) (w : World) : Prop where
  c4 : w.cell? ⟨p.p4, 0, none⟩ = some (.map (some p.m))
  c5 : w.cell? ⟨p.p5, 0, none⟩ = some (.func (.func 100) #[] p.lb)
  mm : Memo Try.prog 69 3 p.m F w
theorem TrI.kept {S : Nat} {p : TrP} {F : Int → Int → Int} {w w' : World} (h : TrI p F w) (hp : p.Ok S) (hg : w.grownBy w' (some p.m)) (hm : Memo Try.prog 69 3 p.m F w') : TrI p F w' :=
  ⟨cell_grown hg h.c4 (fun e => hp.n4 (Option.some.inj e)), cell_grown hg h.c5 (fun e => hp.n5 (Option.some.inj e)), hm⟩
theorem TrI.below {S : Nat} {p : TrP} {F : Int → Int → Int} {w w' : World} (h : TrI p F w) (hp : p.Ok S) (hb : Below S w w') : TrI p F w' :=
  ⟨(hb.cell hp.s4).trans h.c4, (hb.cell hp.s5).trans h.c5, h.mm.below hb hp.sm⟩
/-- The sum so far. -/
def Ps (F : Int → Int → Int) (n o : Int) : Nat → Int
  | 0 => 0
  | j + 1 => Ps F n o j + F (n - 1) (o - 1 + j)
structure TrF (F : Int → Int → Int) : Prop where
  nn : ∀ n o, 0 ≤ F n o
  le : ∀ n o, F n o ≤ 1125899906842624
  end_ : ∀ n o : Nat, n < 42 → o < 42 → (o > n ∨ o = 0) → F n o = if o = n then 1 else 0
  sum : ∀ n o : Nat, n < 24 → 1 ≤ o → o ≤ n → F n o = Ps F n o (n - o + 1)
theorem Ps_nn {F : Int → Int → Int} (H : TrF F) (n o : Int) : ∀ j, 0 ≤ Ps F n o j
  | 0 => Int.le_refl _
  | j + 1 => by have := Ps_nn H n o j; have := H.nn (n - 1) (o - 1 + j); simp only [Ps]; omega
theorem Ps_mono {F : Int → Int → Int} (H : TrF F) (n o : Int) (j : Nat) : ∀ e, Ps F n o j ≤ Ps F n o (j + e)
  | 0 => Int.le_refl _
  | e + 1 => by have := Ps_mono H n o j e; have := H.nn (n - 1) (o - 1 + (j + e : Nat)); rw [← Nat.add_assoc]; simp only [Ps]; omega
theorem egT : ∀ args w, (callFunc 100 args).run Try.prog w = .ok (.enter 100 args) w := enters_of Try.func100 (by kernel_rfl) rfl
set_option maxHeartbeats 16000000 in
set_option maxRecDepth 100000 in
theorem tree2.calls (p : TrP) (S : Nat) (hp : p.Ok S) (F : Int → Int → Int) (hF : TrF F) : ∀ (N : Nat) (n o : Nat) (w : World), n < 24 → o < 41 → n < N → TrI p F w →
    Calls Try.prog 100 (#[.int .i64 n, .int .i64 o] ++ p.lb) w fun e w' => e = .returned (.int .i64 (F n o)) ∧ TrI p F w' ∧ w.grownBy w' (some p.m) := by
  intro N
  induction N with
  | zero => intro n o w hn ho hN; omega
  | succ N ih =>
    intro n o w hn ho hN hI
    show Calls Try.prog 100 #[.int .i64 n, .int .i64 o, .pointer (some ⟨p.p4, 0, none⟩), .pointer (some ⟨p.p5, 0, none⟩)] w _
    have HI := Aside0.mk hI
    have HP := Aside0.mk hp
    have eg := egT
    by_cases h1 : o > n ∨ o = 0
    · have he := hF.end_ n o (by omega) (by omega) h1
      clear hI hp ih
      rcases h1 with h1 | h1
      · have hb1 : decide ((o : Int) > n) = true := decide_eq_true (by omega)
        have hb2 : decide ((n : Int) < o) = true := decide_eq_true (by omega)
        have hb3 : ((o : Int) == n) = false := by simp; omega
        rw [if_neg (by omega)] at he
        rw [he]
        go_enter Try.func100, Try.ntmps100
        go_wp2_with fail
        go_ret
        exact ⟨rfl, HI.out, World.grownBy.refl _ _⟩
      · subst h1
        have hb1 : decide ((0 : Int) > n) = false := decide_eq_false (by omega)
        have hb2 : decide ((n : Int) < 0) = false := decide_eq_false (by omega)
        by_cases h2 : 0 = n
        · subst h2
          rw [if_pos rfl] at he
          rw [he]
          go_enter Try.func100, Try.ntmps100
          go_wp2_with fail
          go_ret
          exact ⟨rfl, HI.out, World.grownBy.refl _ _⟩
        · rw [if_neg h2] at he
          have hb3 : ((0 : Int) == n) = false := by simp; omega
          rw [he]
          go_enter Try.func100, Try.ntmps100
          go_wp2_with fail
          go_ret
          exact ⟨rfl, HI.out, World.grownBy.refl _ _⟩
    · have ho1 : 1 ≤ o := by omega
      have hon : o ≤ n := by omega
      have hb1 : decide ((o : Int) > n) = false := decide_eq_false (by omega)
      have hb2 : decide ((n : Int) < o) = false := decide_eq_false (by omega)
      have hb3 : ((o : Int) == 0) = false := by simp; omega
      have hsum := hF.sum n o (by omega) ho1 hon
      obtain ⟨kl, hkl'⟩ := keyK n o (by omega) (by omega)
      have hkl := Aside0.mk hkl'
      obtain ⟨D, hD', hG'⟩ := hI.mm
      have hD := Aside0.mk hD'
      have hG := Aside0.mk hG'
      have c4 := hI.c4
      have c5 := hI.c5
      have c4' : (w.alloc (.cells #[.int .i64 (n : Int), .int .i64 (o : Int)] 69)).cell? ⟨p.p4, 0, none⟩ = some (.map (some p.m)) := (World.cell?_alloc_past _ _ _ (World.block_lt_of_cell? w _ c4)).trans c4
      have GA : Aside0 (w.grownBy (w.alloc (.cells #[.int .i64 (n : Int), .int .i64 (o : Int)] 69)) (some p.m)) := ⟨World.grownBy_alloc _ _ _⟩
      have IA : Aside0 (TrI p F (w.alloc (.cells #[.int .i64 (n : Int), .int .i64 (o : Int)] 69))) := ⟨HI.out.kept HP.out GA.out (HI.out.mm.kept (World.grownBy_alloc _ _ none) (by simp))⟩
      have k0 := cell_one_two w (.int .i64 (n : Int)) (.int .i64 (o : Int)) 69
      have HK0 := Aside0.mk k0
      have HSum := Aside0.mk hsum
      have Hih := Aside0.mk ih
      have HFF := Aside0.mk hF
      clear hI hp hkl' hD' hG' c4 c5 k0 hsum ih h1 hF
      cases hh : Maps.has D kl with
      | true =>
        go_enter Try.func100, Try.ntmps100
        go_wp2_with (first | (at_lookup; refine wpList_lookup_own_ok_int _ rfl _ _ 68 rfl 69 3 .i64 lawK Try.underlying68 Try.underlying3 (zeroE _) p.m _ D rfl (hD.out.alloc _) _ _ rfl hkl.out ?_; intro c hat hwc))
        go_ret
        have hc := hG.out.hit lawK hkl.out hh hat
        exact ⟨by show Ending.returned (.int .i64 c) = _; rw [hc], IA.out, GA.out⟩
      | false =>
        have hat0 := Maps.atKey_of_not_has hh (DataW.lit (H := Unit) (.int .i64 0))
        go_enter Try.func100, Try.ntmps100
        go_wp2_with (first | (at_lookup; refine wpList_lookup_own_ok_int _ rfl _ _ 68 rfl 69 3 .i64 lawK Try.underlying68 Try.underlying3 (zeroE _) p.m _ D rfl (hD.out.alloc _) _ _ rfl hkl.out ?_; intro c hat hwc; obtain rfl : c = 0 := (by rw [hat0] at hat; injection hat with hat; injection hat with _ hat; exact hat.symm); clear hat hat0 hwc))
        go_loopg [8, 10] (n - o + 1) (fun kq v8 v10 wr => ∃ j : Nat, v8 = .int .i64 (Ps F n o j) ∧ v10 = .int .i64 j ∧ Aside0 (j ≤ n - o + 1) ∧ Aside0 (kq = n - o + 1 - j) ∧ Aside0 (TrI p F wr) ∧ Aside0 ((w.alloc (.cells #[.int .i64 (n : Int), .int .i64 (o : Int)] 69)).grownBy wr (some p.m)))
        case atStart => exact ⟨0, rfl, rfl, ⟨Nat.zero_le _⟩, ⟨rfl⟩, IA, ⟨World.grownBy.refl _ _⟩⟩
        case round =>
          obtain ⟨j, rfl, rfl, HJ, HK, HTI, HQ⟩ := hrel
          have hj := HJ.out
          have c5 := HTI.out.c5
          have q0 := Ps_nn HFF.out n o j
          by_cases hlt : j < n - o + 1
          · have hltb : decide ((o : Int) - 1 + j ≤ n - 1) = true := decide_eq_true (by omega)
            have q1 := Ps_mono HFF.out n o (j + 1) (n - o + 1 - (j + 1))
            rw [show j + 1 + (n - o + 1 - (j + 1)) = n - o + 1 from by omega, ← HSum.out] at q1
            have q2 := HFF.out.le n o
            have q3 := HFF.out.nn ((n : Int) - 1) ((o : Int) - 1 + j)
            have q4 : Ps F n o (j + 1) = Ps F n o j + F ((n : Int) - 1) ((o : Int) - 1 + j) := rfl
            have q5 : Ps F n o j + F ((n : Int) - 1) ((o : Int) - 1 + j) ≤ 1125899906842624 := by omega
            have Q4 := Aside0.mk q4
            have H1 := Hih.out (n - 1) (o - 1 + j) wr (by omega) (by omega) (by omega) HTI.out
            rw [show ((n - 1 : Nat) : Int) = (n : Int) - 1 from by omega, show ((o - 1 + j : Nat) : Int) = (o : Int) - 1 + j from by omega] at H1
            clear q1 q2 q4
            go_wp2_with (first | (go_at_call 100; refine H1.mono ?_; clear H1; rintro e w1 ⟨rfl, hI1, hg1⟩; have HI1 := Aside0.mk hI1; have HQ1 := Aside0.mk (grown_trans HQ.out hg1); clear hI1 hg1))
            go_roundg (n - o + 1 - (j + 1))
            case measure => have := HK.out; omega
            case rel => exact ⟨j + 1, by rw [Q4.out], by go_num, ⟨by omega⟩, ⟨rfl⟩, HI1, HQ1⟩
          · have hltb : decide ((o : Int) - 1 + j ≤ n - 1) = false := decide_eq_false (by omega)
            obtain rfl : j = n - o + 1 := by omega
            have b4 := HTI.out.c4
            have hne : some w.heap.size ≠ some p.m := fun e => by have := HI.out.mm.lt; have := Option.some.inj e; omega
            have b0 : wr.cell? ⟨w.heap.size, 0, none⟩ = some (.int .i64 (n : Int)) := cell_grown HQ.out HK0.out.1 hne
            have b1 : wr.cell? ⟨w.heap.size, 1, none⟩ = some (.int .i64 (o : Int)) := cell_grown HQ.out HK0.out.2 hne
            obtain ⟨D2, hD2', hG2'⟩ := HTI.out.mm
            have hD2 := Aside0.mk hD2'
            have hG2 := Aside0.mk hG2'
            have hn2 : Maps.size D2 < maxLen := Nat.lt_of_le_of_lt (Good.size lawK hD2' hG2') (by unfold maxLen; omega)
            have hv : plainElem (H := Unit) Try.prog 3 (.int .i64 (Ps F n o (n - o + 1))) = some (.lit (.int .i64 (F n o)), []) := by
              have h1 := HFF.out.nn n o
              have h2 := HFF.out.le n o
              rw [← HSum.out]
              exact plainElem_int Try.underlying3 (WalkArith.wf_i64 (by omega))
            have HV := Aside0.mk hv
            clear hD2' hG2' hne hv c5
            go_wp2_with (first | (at_mapUpdate; refine wpList_mapUpdate_own _ rfl _ _ _ 68 rfl 69 3 lawK Try.underlying68 _ p.m _ D2 rfl hD2.out hn2 _ _ kl rfl rfl hkl.out _ [] HV.out ?_; intro w3 hown3 hg3))
            go_ret
            have hgg := grown_trans (grown_trans GA.out HQ.out) hg3
            exact ⟨by show Ending.returned (.int .i64 (Ps F n o (n - o + 1))) = _; rw [← HSum.out], HTI.out.kept HP.out hg3 (Memo.put hown3 (hG2.out.put (hD2.out.isMap) (by omega) (by omega) hkl.out)), hgg⟩
set_option maxHeartbeats 8000000 in
set_option maxRecDepth 100000 in
theorem treeCounts.calls (w : World) :
    Calls Try.prog 78 #[] w fun e w' => ∃ p : TrP, e = .returned (.func (.func 100) #[] p.lb) ∧ p.Ok w'.heap.size ∧ w.heap.size ≤ p.m ∧ Below w.heap.size w w' ∧ ∀ F, TrI p F w' := by
  have hmm := @run_makeMap Try.prog
  have hmf : ∀ (fn : Fn) (first cap : Array Value) (w : World), (Instr.makeFunc fn first cap).run Try.prog w = .ok (.func fn first cap) w := fun _ _ _ _ => rfl
  go_enter Try.func78, Try.ntmps78
  go_wp2_with fail
  go_ret
  refine ⟨⟨w.heap.size + 1, w.heap.size + 1 + 1, w.heap.size⟩, rfl, ?_, ?_, ?_, fun F => ?_⟩
  · constructor <;> simp <;> omega
  · exact Nat.le_refl _
  · repeat (first | exact Below.refl _ _ | apply below_alloc | (refine below_store ?_ _))
  · constructor
    case mm =>
      have h := Memo.made Try.prog 69 3 F w
      exact (h.kept (World.grownBy_alloc _ _ none) (by simp)).kept (World.grownBy_alloc _ _ none) (by simp)
    all_goals repeat (first | exact World.cell?_alloc_at _ _ _ _ (by simp; done) | refine (World.cell?_alloc_past _ _ _ (by simp <;> omega)).trans ?_)
def trS (f : Nat → Int) (lo : Nat) : Nat → Int
  | 0 => 0
  | d + 1 => trS f lo d + f (lo + d)
/-- How many lists of n degrees make o trees. -/
def trN : Nat → Nat → Int
  | 0, o => if o = 0 then 1 else 0
  | n + 1, o => if o = 0 then 0 else trS (trN n) (o - 1) (n + 2 - o)
def TrL : Prop := ∀ n, n < 24 → ∀ o, o < 24 → trN n o ≤ 1125899906842624
instance : Decidable TrL := by unfold TrL; infer_instance
theorem trS_nn {f : Nat → Int} (h : ∀ x, 0 ≤ f x) (lo : Nat) : ∀ d, 0 ≤ trS f lo d
  | 0 => Int.le_refl _
  | d + 1 => by have := trS_nn h lo d; have := h (lo + d); simp only [trS]; omega
theorem trN_nn : ∀ n o, 0 ≤ trN n o
  | 0, o => by unfold trN; split <;> omega
  | n + 1, o => by
    unfold trN
    split
    · omega
    · exact trS_nn (trN_nn n) _ _
def Ft (n o : Int) : Int := if 0 ≤ n ∧ n < 24 ∧ 0 ≤ o ∧ o ≤ n then trN n.toNat o.toNat else 0
theorem Ft_Ps (n o : Nat) (hn : n < 24) (h1 : 1 ≤ o) (hon : o ≤ n) : ∀ j : Nat, j ≤ n - o + 1 → Ps Ft n o j = trS (trN (n - 1)) (o - 1) j
  | 0, _ => rfl
  | j + 1, h => by
    have ih := Ft_Ps n o hn h1 hon j (by omega)
    simp only [Ps, trS, ih]
    congr 1
    unfold Ft
    rw [if_pos (by omega)]
    congr 1 <;> omega
theorem Ft_ok (hL : TrL) : TrF Ft where
  nn := fun n o => by
    unfold Ft
    split
    · exact trN_nn _ _
    · omega
  le := fun n o => by
    unfold Ft
    split
    · rename_i h
      exact hL _ (by omega) _ (by omega)
    · omega
  end_ := fun n o hn ho h => by
    unfold Ft
    by_cases h0 : o = n
    · subst h0
      obtain rfl : o = 0 := by omega
      simp [trN]
    · rw [if_neg h0]
      split
      · rename_i h2
        obtain rfl : o = 0 := by omega
        cases n with
        | zero => omega
        | succ n => simp [trN]
      · rfl
  sum := fun n o hn h1 hon => by
    rw [Ft_Ps n o hn h1 hon _ (Nat.le_refl _)]
    unfold Ft
    rw [if_pos (by omega)]
    cases n with
    | zero => omega
    | succ n =>
      simp only [Int.toNat_natCast]
      rw [trN, if_neg (by omega)]
      congr 1
      omega
/-- The closure's numbers over a list of degrees that are left, so many trees being open. -/
def rtR (F : Int → Int → Int) : Int → List Int → Int
  | _, [] => 0
  | o, n :: t => Ps F (t.length + 1) o n.toNat + rtR F (o + n - 1) t
def rtOk : Int → List Int → Bool
  | _, [] => true
  | o, n :: t => decide (0 ≤ n ∧ n ≤ 20 ∧ 1 ≤ o ∧ o ≤ 20) && rtOk (o + n - 1) t
theorem Ps_up {F : Int → Int → Int} (H : TrF F) (n o : Int) : ∀ j : Nat, Ps F n o j ≤ 1125899906842624 * j
  | 0 => by simp [Ps]
  | j + 1 => by have := Ps_up H n o j; have := H.le (n - 1) (o - 1 + j); simp only [Ps]; omega
theorem rtOk_cons {o n : Int} {t : List Int} (h : rtOk o (n :: t) = true) : (0 ≤ n ∧ n ≤ 20 ∧ 1 ≤ o ∧ o ≤ 20) ∧ rtOk (o + n - 1) t = true := by
  simpa [rtOk] using h
theorem rtR_nn {F : Int → Int → Int} (H : TrF F) : ∀ (o : Int) (l : List Int), 0 ≤ rtR F o l
  | _, [] => Int.le_refl _
  | o, n :: t => by have := rtR_nn H (o + n - 1) t; have := Ps_nn H (t.length + 1) o n.toNat; simp only [rtR]; omega
theorem rtR_up {F : Int → Int → Int} (H : TrF F) : ∀ (o : Int) (l : List Int), rtOk o l = true → rtR F o l ≤ 22517998136852480 * l.length
  | _, [], _ => by simp [rtR]
  | o, n :: t, h => by
    obtain ⟨h1, h2⟩ := rtOk_cons h
    have := rtR_up H (o + n - 1) t h2
    have := Ps_up H (t.length + 1) o n.toNat
    simp only [rtR, List.length_cons]
    omega
theorem drop_rd (l : List Int) (i : Nat) (h : i < l.length) : l.drop i = rd l i :: l.drop (i + 1) := by
  rw [List.drop_eq_getElem_cons h]
  congr 1
  simp [rd, h]
def impl_RankOfTree.f (k : Nat) (l0 : List Int) : Option (Int × Bool) := (impl_isTree.f k l0).bind fun t => if t = true then (if TrL ∧ l0.length ≤ 20 ∧ rtOk 1 l0 = true then some (rtR Ft 1 l0, true) else none) else some (0, false)
theorem impl_RankOfTree.mono : ∀ a0 k, LeO (impl_RankOfTree.f k a0) (impl_RankOfTree.f (k + 1) a0) := by
  intro a0 k
  unfold impl_RankOfTree.f
  refine LeO.bind (impl_isTree.mono _ _) (fun t => ?_)
  exact LeO.refl _
set_option maxHeartbeats 8000000 in
set_option maxRecDepth 100000 in
theorem impl_RankOfTree.calls (k : Nat) (A0 : Option Addr) (c0 : Nat) (l0 : List Int) (r1 : Int) (r2 : Bool) (w : World) (hr0 : Kd.C (Kd.int .i64) w A0 l0.length l0) (hc0 : l0.length ≤ c0) (h : impl_RankOfTree.f k l0 = some (r1, r2)) :
    Calls Try.prog 39 #[.slice A0 l0.length c0] w fun e w' => e = .returned (.tuple #[.int .i64 r1, .bool r2]) ∧ Below w.heap.size w w' := by
  have HR0 := Aside0.mk hr0
  have HC0 := Aside0.mk hc0
  clear hr0 hc0
  unfold impl_RankOfTree.f at h
  replace h := Option.bind_eq_some_iff.mp h
  obtain ⟨t, At0, h⟩ := h
  have At := Aside0.mk At0
  clear At0
  cases t with
  | false =>
    simp only [Bool.false_eq_true, if_false, Option.some.injEq, Prod.mk.injEq] at h
    obtain ⟨rfl, rfl⟩ := h
    go_enter Try.func39, Try.ntmps39
    go_wp2_with (first | (go_at_call 77; refine (impl_isTree.calls k A0 c0 l0 false _ HR0.out HC0.out At.out).mono ?_; rintro e w1 ⟨rfl, ⟨nd, rfl⟩⟩))
    go_ret2
    exact ⟨rfl, pw_below_drewN (Below.refl _ _) nd⟩
  | true =>
    simp only [if_true] at h
    by_cases hc : TrL ∧ l0.length ≤ 20 ∧ rtOk 1 l0 = true
    · rw [if_pos hc] at h
      simp only [Option.some.injEq, Prod.mk.injEq] at h
      obtain ⟨hr1, rfl⟩ := h
      have HR1 := Aside0.mk hr1
      have HTL := Aside0.mk (Ft_ok hc.1)
      have HLn := Aside0.mk hc.2.1
      have HOk := Aside0.mk hc.2.2
      clear hr1 hc
      go_enter Try.func39, Try.ntmps39
      go_wp2_with (first | (go_at_call 77; refine (impl_isTree.calls k A0 c0 l0 true _ HR0.out HC0.out At.out).mono ?_; rintro e w1 ⟨rfl, ⟨nd, rfl⟩⟩) | (go_at_call 78; refine (treeCounts.calls _).mono ?_; rintro e w2 ⟨p, rfl, hpo, hpm, hb2, hI2⟩; have HPO := Aside0.mk hpo; have HPM := Aside0.mk hpm; have HB2 := Aside0.mk (below_step (pw_below_drewN (Below.refl w.heap.size w) nd) hb2 : Below w.heap.size w w2); have HI2 := Aside0.mk (hI2 Ft); clear hpo hpm hb2 hI2))
      go_loopg [5, 6, 16] l0.length (fun kq v5 v6 v16 wr => ∃ (i : Nat) (acc o : Int), v5 = .int .i64 acc ∧ v6 = .int .i64 o ∧ v16 = .int .i64 i ∧ Aside0 (i ≤ l0.length ∧ 0 ≤ acc ∧ acc ≤ 22517998136852480 * i) ∧ Aside0 (kq = l0.length - i) ∧ Aside0 (acc + rtR Ft o (l0.drop i) = r1 ∧ rtOk o (l0.drop i) = true) ∧ Aside0 (TrI p Ft wr) ∧ Aside0 (w2.grownBy wr (some p.m)))
      case atStart => exact ⟨0, 0, 1, rfl, rfl, rfl, ⟨by omega⟩, ⟨rfl⟩, ⟨by simpa using HR1.out, by simpa using HOk.out⟩, HI2, ⟨World.grownBy.refl _ _⟩⟩
      case round =>
        clear HI2
        obtain ⟨i, acc, o, rfl, rfl, rfl, HX, HK, HE, HI, HG⟩ := hrel
        have hx := HX.out
        by_cases hlt : i < l0.length
        · have hltb : decide ((i : Int) < (l0.length : Int)) = true := decide_eq_true (by omega)
          have HB := Aside0.mk (HB2.out.grown HG.out HB2.out.size (fun k hk => by cases hk; have := HPM.out; simpa using this) : Below w.heap.size w wr)
          have hR := Kd.C_below HR0.out HB.out
          obtain ⟨ad, ea, hx0⟩ := Kd.at_int hR (i : Int) (by omega) (by omega)
          cases ea
          clear hR
          have p1 : (0 ≤ (i : Int)) = True := eq_true (by omega)
          have p2 : ((i : Int) < (l0.length : Int)) = True := eq_true (by omega)
          have hd : l0.drop i = rd l0 i :: l0.drop (i + 1) := drop_rd l0 i hlt
          have he := HE.out
          rw [hd] at he
          have ho := rtOk_cons he.2
          obtain ⟨n, hn⟩ : ∃ n : Nat, rd l0 i = n := Int.eq_ofNat_of_zero_le ho.1.1
          have ht := he.1
          simp only [rtR, hn, Int.toNat_natCast] at ht
          rw [hn] at ho hx0
          rw [Int.toNat_natCast] at hx0
          have HO := Aside0.mk ho
          have HT := Aside0.mk ht
          clear he ho ht hn hd
          have hlen := HLn.out
          have hx2 := HX.out
          have ho2 := HO.out.1
          go_wp2_with fail
          go_loopg [5, 22] n (fun kq v5 v22 wr => ∃ (j : Nat), v5 = .int .i64 (acc + Ps Ft ((l0.length - i : Nat) : Int) o j) ∧ v22 = .int .i64 j ∧ Aside0 (j ≤ n) ∧ Aside0 (kq = n - j) ∧ Aside0 (TrI p Ft wr) ∧ Aside0 (w2.grownBy wr (some p.m)))
          case atStart => exact ⟨0, by simp [Ps], rfl, ⟨Nat.zero_le _⟩, ⟨rfl⟩, HI, HG⟩
          case round =>
            clear HI HG
            obtain ⟨j, rfl, rfl, HJ, HK4, HI, HG⟩ := hrel
            have hj := HJ.out
            by_cases hjn : j < n
            · have hjb : decide ((j : Int) < (n : Int)) = true := decide_eq_true (by omega)
              have H1 := tree2.calls p w2.heap.size HPO.out Ft HTL.out 24 (l0.length - 1 - i) (o - 1 + j).toNat wr (by omega) (by omega) (by omega) HI.out
              rw [show ((l0.length - 1 - i : Nat) : Int) = (l0.length : Int) - 1 - i from by omega, show (((o - 1 + j).toNat : Nat) : Int) = o - 1 + j from by omega] at H1
              have q1 := Ps_nn HTL.out ((l0.length - i : Nat) : Int) o j
              have q2 := Ps_up HTL.out ((l0.length - i : Nat) : Int) o j
              have q3 := HTL.out.nn ((l0.length : Int) - 1 - i) (o - 1 + j)
              have q4 := HTL.out.le ((l0.length : Int) - 1 - i) (o - 1 + j)
              have Q5 := Aside0.mk (show Ps Ft ((l0.length - i : Nat) : Int) o (j + 1) = Ps Ft ((l0.length - i : Nat) : Int) o j + Ft ((l0.length : Int) - 1 - i) (o - 1 + j) by simp only [Ps]; congr 2; omega)
              have eg := egT
              go_wp2_with (first | (go_at_call 100; refine H1.mono ?_; clear H1; rintro e w5 ⟨rfl, hI1, hg1⟩; have HI1 := Aside0.mk hI1; have HG1 := Aside0.mk (grown_trans HG.out hg1); clear hI1 hg1))
              go_roundg (n - (j + 1))
              case measure => have := HK4.out; omega
              case rel => exact ⟨j + 1, by rw [Q5.out]; go_num, by go_num, ⟨by omega⟩, ⟨rfl⟩, HI1, HG1⟩
            · have hjb : decide ((j : Int) < (n : Int)) = false := decide_eq_false (by omega)
              obtain rfl : j = n := by omega
              go_wp2_with fail
              go_roundg (l0.length - (i + 1))
              case measure => have := HK.out; omega
              case rel => exact ⟨i + 1, acc + Ps Ft ((l0.length - i : Nat) : Int) o j, o + j - 1, rfl, by go_num, by go_num, ⟨by have := Ps_nn HTL.out ((l0.length - i : Nat) : Int) o j; have := Ps_up HTL.out ((l0.length - i : Nat) : Int) o j; omega⟩, ⟨rfl⟩, ⟨by have := HT.out; rw [List.length_drop, show (((l0.length - (i + 1) : Nat) : Int) + 1) = ((l0.length - i : Nat) : Int) by omega] at this; omega, HO.out.2⟩, HI, HG⟩
        · obtain rfl : i = l0.length := by omega
          have hltb : decide ((l0.length : Int) < (l0.length : Int)) = false := decide_eq_false (by omega)
          have he := HE.out.1
          simp only [List.drop_length, rtR, Int.add_zero] at he
          subst he
          have HB := Aside0.mk (HB2.out.grown HG.out HB2.out.size (fun k hk => by cases hk; have := HPM.out; simpa using this) : Below w.heap.size w wr)
          go_wp2_with fail
          go_ret2
          exact ⟨rfl, HB.out⟩
    · rw [if_neg hc] at h
      cases h

end Go.Proofs.Ytblofikjcmjaeaa.PFnExactRankOfTree
