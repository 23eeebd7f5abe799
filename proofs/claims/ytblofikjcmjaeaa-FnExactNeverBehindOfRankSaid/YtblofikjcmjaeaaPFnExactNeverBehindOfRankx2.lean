/- The walk of the statement FnExactNeverBehindOfRank: each Go function that it reaches does what the Lean function of its name says; printed by a program of this session. -/
import Derived.Test.YtblofikjcmjaeaaPFnExactNeverBehindOfRankx0
namespace Go.Proofs.Ytblofikjcmjaeaa.PFnExactNeverBehindOfRank
open Go.RowKit Go.Proofs.YtblofikjcmjaeaaW.PrintWords Go.Proofs.YtblofikjcmjaeaaW.PrintLast Go.Proofs.YtblofikjcmjaeaaW.PrintMore
attribute [local go_sem] max2_int min2_int max_two min_two max_three min_three max_four min_four   -- for this text's walks alone
set_option linter.unusedVariables false
set_option linter.unusedSimpArgs false

/-! ### spec_baRest: function 66 -/
mutual
def spec_baRest.l0 : Nat → Int → Int → Int → Int → List (List Int) → Int → Option (Int)
  | 0, _, _, _, _, _, _ => none
  | k + 1, x0, x1, x2, x3, x9, x10 => if x10 ≤ x1 then (if 0 ≤ (wrap64 (x0 + 1)) then (if (wrap64 (x0 + 1) : Int).toNat ≤ 35184372088832 then (if 0 ≤ x10 then (if x10 < (x9.length : Int) then (spec_baRest.l1 k x0 x1 x2 x3 (x9.set (x10 : Int).toNat (List.replicate (wrap64 (x0 + 1) : Int).toNat 0)) x10 0) else (none)) else (none)) else (none)) else (none)) else (if 0 ≤ x1 then (if x1 < (x9.length : Int) then (if 0 ≤ x0 then (if x0 < ((rd_L1 x9 x1).length : Int) then (some (rd (rd_L1 x9 x1) x0)) else (none)) else (none)) else (none)) else (none))
def spec_baRest.l1 : Nat → Int → Int → Int → Int → List (List Int) → Int → Int → Option (Int)
  | 0, _, _, _, _, _, _, _ => none
  | k + 1, x0, x1, x2, x3, x9, x10, x11 => if x11 ≤ x0 then (if (wrap64 ((wrap64 (x3 + (wrap64 (x0 - x11)))) - (wrap64 (x2 * (wrap64 (x1 - x10)))))) < 0 then (spec_baRest.l1 k x0 x1 x2 x3 x9 x10 (wrap64 (x11 + 1))) else (if (wrap64 (x11 + x10)) = 0 then (if 0 ≤ x10 then (if x10 < (x9.length : Int) then (if 0 ≤ x11 then (if x11 < ((rd_L1 x9 x10).length : Int) then (spec_baRest.l1 k x0 x1 x2 x3 (x9.set (x10 : Int).toNat ((rd_L1 x9 x10).set (x11 : Int).toNat 1)) x10 (wrap64 (x11 + 1))) else (none)) else (none)) else (none)) else (none)) else (if x11 > 0 then (if 0 ≤ x10 then (if x10 < (x9.length : Int) then (if 0 ≤ x11 then (if x11 < ((rd_L1 x9 x10).length : Int) then (if 0 ≤ (wrap64 (x11 - 1)) then (if (wrap64 (x11 - 1)) < ((rd_L1 x9 x10).length : Int) then ((some (x9.set (x10 : Int).toNat ((rd_L1 x9 x10).set (x11 : Int).toNat (wrap64 ((rd (rd_L1 x9 x10) x11) + (rd (rd_L1 x9 x10) (wrap64 (x11 - 1)))))) : List (List Int))).bind fun y134 => (if x10 > 0 then (if (wrap64 ((wrap64 ((wrap64 (x3 + (wrap64 (x0 - x11)))) - (wrap64 (x2 * (wrap64 (x1 - x10)))))) - x2)) ≥ 0 then (if x11 < ((rd_L1 y134 x10).length : Int) then (if 0 ≤ (wrap64 (x10 - 1)) then (if (wrap64 (x10 - 1)) < (x9.length : Int) then (if x11 < ((rd_L1 y134 (wrap64 (x10 - 1))).length : Int) then (spec_baRest.l1 k x0 x1 x2 x3 (y134.set (x10 : Int).toNat ((rd_L1 y134 x10).set (x11 : Int).toNat (wrap64 ((rd (rd_L1 y134 x10) x11) + (rd (rd_L1 y134 (wrap64 (x10 - 1))) x11))))) x10 (wrap64 (x11 + 1))) else (none)) else (none)) else (none)) else (none)) else (spec_baRest.l1 k x0 x1 x2 x3 y134 x10 (wrap64 (x11 + 1)))) else (spec_baRest.l1 k x0 x1 x2 x3 y134 x10 (wrap64 (x11 + 1))))) else (none)) else (none)) else (none)) else (none)) else (none)) else (none)) else (if x10 > 0 then (if (wrap64 ((wrap64 ((wrap64 (x3 + (wrap64 (x0 - x11)))) - (wrap64 (x2 * (wrap64 (x1 - x10)))))) - x2)) ≥ 0 then (if 0 ≤ x10 then (if x10 < (x9.length : Int) then (if 0 ≤ x11 then (if x11 < ((rd_L1 x9 x10).length : Int) then (if 0 ≤ (wrap64 (x10 - 1)) then (if (wrap64 (x10 - 1)) < (x9.length : Int) then (if x11 < ((rd_L1 x9 (wrap64 (x10 - 1))).length : Int) then (spec_baRest.l1 k x0 x1 x2 x3 (x9.set (x10 : Int).toNat ((rd_L1 x9 x10).set (x11 : Int).toNat (wrap64 ((rd (rd_L1 x9 x10) x11) + (rd (rd_L1 x9 (wrap64 (x10 - 1))) x11))))) x10 (wrap64 (x11 + 1))) else (none)) else (none)) else (none)) else (none)) else (none)) else (none)) else (none)) else (spec_baRest.l1 k x0 x1 x2 x3 x9 x10 (wrap64 (x11 + 1)))) else (spec_baRest.l1 k x0 x1 x2 x3 x9 x10 (wrap64 (x11 + 1))))))) else (spec_baRest.l0 k x0 x1 x2 x3 x9 (wrap64 (x10 + 1)))
end
def spec_baRest.f (k : Nat) (a0 : Int) (a1 : Int) (a2 : Int) (a3 : Int) : Option (Int) := if 0 ≤ (wrap64 (a1 + 1)) then (if (wrap64 (a1 + 1) : Int).toNat ≤ 11728124029610 then (spec_baRest.l0 k a0 a1 a2 a3 (List.replicate (wrap64 (a1 + 1) : Int).toNat []) 0) else (none)) else (none)
theorem spec_baRest.mono_l : ∀ k, (∀ y0 y1 y2 y3 y4 y5, LeO (spec_baRest.l0 k y0 y1 y2 y3 y4 y5) (spec_baRest.l0 (k + 1) y0 y1 y2 y3 y4 y5)) ∧ (∀ y0 y1 y2 y3 y4 y5 y6, LeO (spec_baRest.l1 k y0 y1 y2 y3 y4 y5 y6) (spec_baRest.l1 (k + 1) y0 y1 y2 y3 y4 y5 y6))
  | 0 => ⟨fun _ _ _ _ _ _ r h => by simp [spec_baRest.l0] at h, fun _ _ _ _ _ _ _ r h => by simp [spec_baRest.l1] at h⟩
  | k + 1 => by
    obtain ⟨ih0, ih1⟩ := spec_baRest.mono_l k
    refine ⟨?_, ?_⟩
    · intro y0 y1 y2 y3 y4 y5
      unfold spec_baRest.l0
      repeat' first
      | (with_reducible exact ih0 _ _ _ _ _ _)
      | (with_reducible exact ih1 _ _ _ _ _ _ _)
      | (with_reducible exact LeO.refl _)
      | (with_reducible exact LeO.none _)
      | (with_reducible refine LeO.ite ?_ ?_)
      | (with_reducible refine LeO.bind ?_ (fun _ => ?_))
      | exact ih0 _ _ _ _ _ _
      | exact ih1 _ _ _ _ _ _ _
      | exact LeO.none _
      | refine LeO.ite ?_ ?_
      | refine LeO.bind ?_ (fun _ => ?_)
    · intro y0 y1 y2 y3 y4 y5 y6
      unfold spec_baRest.l1
      repeat' first
      | (with_reducible exact ih0 _ _ _ _ _ _)
      | (with_reducible exact ih1 _ _ _ _ _ _ _)
      | (with_reducible exact LeO.refl _)
      | (with_reducible exact LeO.none _)
      | (with_reducible refine LeO.ite ?_ ?_)
      | (with_reducible refine LeO.bind ?_ (fun _ => ?_))
      | exact ih0 _ _ _ _ _ _
      | exact ih1 _ _ _ _ _ _ _
      | exact LeO.none _
      | refine LeO.ite ?_ ?_
      | refine LeO.bind ?_ (fun _ => ?_)
theorem spec_baRest.mono : ∀ a0 a1 a2 a3 k, LeO (spec_baRest.f k a0 a1 a2 a3) (spec_baRest.f (k + 1) a0 a1 a2 a3) := by
  intro a0 a1 a2 a3 k
  obtain ⟨ih0, ih1⟩ := spec_baRest.mono_l k
  unfold spec_baRest.f
  repeat' first
      | (with_reducible exact ih0 _ _ _ _ _ _)
      | (with_reducible exact ih1 _ _ _ _ _ _ _)
      | (with_reducible exact LeO.refl _)
      | (with_reducible exact LeO.none _)
      | (with_reducible refine LeO.ite ?_ ?_)
      | (with_reducible refine LeO.bind ?_ (fun _ => ?_))
      | exact ih0 _ _ _ _ _ _
      | exact ih1 _ _ _ _ _ _ _
      | exact LeO.none _
      | refine LeO.ite ?_ ?_
      | refine LeO.bind ?_ (fun _ => ?_)
def spec_baRest.T11 : Bool × List (List Nat × List Nat) := (true, [([], []), ([], []), ([0, 1], [0, 1]), ([2], [2]), ([], []), ([3, 4], [3, 4]), ([5], [5]), ([], []), ([], []), ([7, 8], [7, 8]), ([9], [9]), ([], []), ([11], [11]), ([10, 12], [10, 12]), ([13], [13]), ([6, 14], [6, 14]), ([3, 4, 0, 1, 2, 3, 4, 5, 6, 7, 8, 9, 10, 11, 12, 13, 14, 15], [3, 4]), ([16, 15, 0, 1, 2, 3, 4, 5, 6, 7, 8, 9, 10, 11, 12, 13, 14, 15], [15, 16])])
def spec_baRest.B11 : List Nat := [0, 0, 3, 7, 0, 31, 63, 0, 0, 384, 896, 0, 2048, 8064, 16256, 32767, 65535, 131071]
theorem spec_baRest.tab11 : rtab .any (opsOf Try.f66 11) = spec_baRest.T11 := by kernel_rfl
theorem spec_baRest.bits11 : waitsOk spec_baRest.T11.2 spec_baRest.B11 = true := by kernel_rfl
def spec_baRest.T13 : Bool × List (List Nat × List Nat) := (true, [([], []), ([], []), ([0, 1], [0, 1]), ([2], [2]), ([], []), ([3, 4], [3, 4]), ([5], [5]), ([], []), ([], []), ([8], [8]), ([7, 9], [7, 9]), ([10], [10]), ([], []), ([11, 12], [11, 12]), ([13], [13]), ([6, 14], [6, 14]), ([3, 4, 0, 1, 2, 3, 4, 5, 6, 7, 8, 9, 10, 11, 12, 13, 14, 15], [3, 4]), ([16, 15, 0, 1, 2, 3, 4, 5, 6, 7, 8, 9, 10, 11, 12, 13, 14, 15], [15, 16])])
def spec_baRest.B13 : List Nat := [0, 0, 3, 7, 0, 31, 63, 0, 0, 256, 896, 1920, 0, 8064, 16256, 32767, 65535, 131071]
theorem spec_baRest.tab13 : rtab .any (opsOf Try.f66 13) = spec_baRest.T13 := by kernel_rfl
theorem spec_baRest.bits13 : waitsOk spec_baRest.T13.2 spec_baRest.B13 = true := by kernel_rfl
set_option maxHeartbeats 8000000 in
set_option maxRecDepth 100000 in
theorem spec_baRest.calls (k : Nat) (a0 : Int) (a1 : Int) (a2 : Int) (a3 : Int) (r : Int) (w : World) (h : spec_baRest.f k a0 a1 a2 a3 = some r) :
    Calls Try.prog 66 #[.int .i64 a0, .int .i64 a1, .int .i64 a2, .int .i64 a3] w fun e w' => e = .returned (.int .i64 r) ∧ Below w.heap.size w w' := by
  have HB := Aside0.mk (Below.refl w.heap.size w)
  have H : (if 0 ≤ (wrap64 (a1 + 1)) then (if (wrap64 (a1 + 1) : Int).toNat ≤ 11728124029610 then (spec_baRest.l0 k a0 a1 a2 a3 (List.replicate (wrap64 (a1 + 1) : Int).toNat []) 0) else (none)) else (none)) = some r := h
  clear h
  obtain ⟨ji5, hji5⟩ : ∃ j_ : Int, (wrap64 (a1 + 1)) = j_ := ⟨_, rfl⟩
  replace H : (if 0 ≤ (ji5) then (if (ji5 : Int).toNat ≤ 11728124029610 then (spec_baRest.l0 k a0 a1 a2 a3 (List.replicate (ji5 : Int).toNat []) 0) else (none)) else (none)) = some r := by first | (rw [hji5] at H; exact H) | (simp only [hji5] at H ⊢; exact H)
  have hji5w : (IntKind.i64.wrap (a1 + 1)) = ji5 := (i64_w _).trans hji5
  by_cases c6 : 0 ≤ (ji5)
  · rw [if_pos c6] at H
    have c6b0 := eq_true c6
    have c6b1 : decide (0 ≤ (ji5)) = true := decide_eq_true c6
    clear c6
    by_cases c7 : (ji5 : Int).toNat ≤ 11728124029610
    · rw [if_pos c7] at H
      have c7b0 := eq_true c7
      have c7b1 : decide ((ji5 : Int).toNat ≤ 11728124029610) = true := decide_eq_true c7
      clear c7
      obtain ⟨y115, hy115⟩ : ∃ y_ : List (List Int), y_ = (List.replicate (ji5 : Int).toNat []) := ⟨_, rfl⟩
      replace H : (spec_baRest.l0 k a0 a1 a2 a3 y115 0) = some r := by first | (rw [hy115]; with_reducible exact H) | (have H2_ := (Option.bind_some _ _).symm.trans H; rw [hy115]; with_reducible exact H2_) | (have H2_ := (Option.bind_some _ _).symm.trans H; with_reducible exact H2_) | with_reducible exact H | (rw [hy115]; exact H) | exact H
      have Ny115 := Aside0.mk hy115
      clear hy115
      have H' := Aside0.mk H
      clear H
      go_enter Try.func66, Try.ntmps66
      go_wp2_with (first | ((with_reducible refine gate_dst (N := 15) rfl ?_); refine Kd.S_make (Kd.slice 3 (Kd.int .i64)) _ 28 rfl (N := 15) rfl 44 _ _ rfl ji5 rfl rfl Try.underlying44 (.slice none 0 0) 24 info28 rfl (by decide) (by omega) [] (ok := fun _ => True) (okp := fun _ => True) ⟨_, rfl, Kd.R_nil _ _ _ _ _⟩ (fun _ hk => hk) trivial (of_decide_eq_true (by first | (with_reducible assumption) | assumption)) (Nat.le_trans (Nat.mul_le_mul_right _ (of_decide_eq_true (by first | (with_reducible assumption) | assumption) : ji5.toNat ≤ 11728124029610)) (by omega)) (Below.refl _ _) (Nat.le_refl _) ?_; intro v116 w8 ho9 hb hg_ hnew_; clear hg_ hnew_; (first | rw [← Ny115.out] at ho9 | (simp only [Int.reduceToNat] at ho9; rw [← Ny115.out] at ho9)); have n0_ := Aside0.mk (Kd.S_lower ho9 (below_size (by repeat (first | (with_reducible first | exact HB.out | apply below_alloc | apply pw_below_drewN | apply below_drew1) | exact HB.out)))); have n1_ := Aside0.mk (below_step (by repeat (first | (with_reducible first | exact HB.out | apply below_alloc | apply pw_below_drewN | apply below_drew1) | exact HB.out)) hb); clear HB; have HO117 := n0_; have HB := n1_; clear n0_ n1_; clear hb ho9))
      go_loopg [10] k (fun kq v10 w' => ∃ (x9_1 : List (List Int)) (x10_1 : Int), v10 = .int .i64 x10_1 ∧ Aside0 (spec_baRest.l0 kq a0 a1 a2 a3 x9_1 x10_1 = some r) ∧ Aside0 (kq ≤ k) ∧ Aside0 (Kd.S (Kd.slice 3 (Kd.int .i64)) 28 w' w.heap.size (fun _ => True) v116 x9_1) ∧ Aside0 (Below w.heap.size w w'))
      case atStart => exact ⟨(y115), (0), (by first | rfl | (simp; done) | (simp [*]; done)), H', ⟨Nat.le_refl _⟩, ⟨by (with_reducible repeat (first | apply Kd.S_alloc | apply Kd.S_drewN | apply Kd.S_drew)); exact HO117.out⟩, ⟨by repeat (first | (with_reducible first | exact HB.out | apply below_alloc | apply pw_below_drewN | apply below_drew1) | exact HB.out)⟩⟩
      case round =>
        clear H'
        try clear p2
        try clear c6
        try clear c6b0
        try clear c6b1
        try clear p6
        try clear c7
        try clear c7b0
        try clear c7b1
        obtain ⟨x9_1, x10_1, rfl, HA, HK1, HO_9, HB⟩ := hrel
        cases gk with
        | zero => exact absurd HA.out (by simp [spec_baRest.l0])
        | succ k1 =>
          have H := HA.out
          clear HA
          simp only [spec_baRest.l0] at H
          by_cases c10 : x10_1 ≤ a1
          · rw [if_pos c10] at H
            have c10b0 : decide (x10_1 ≤ a1) = true := decide_eq_true c10
            clear c10
            obtain ⟨ji11, hji11⟩ : ∃ j_ : Int, (wrap64 (a0 + 1)) = j_ := ⟨_, rfl⟩
            replace H : (if 0 ≤ (ji11) then (if (ji11 : Int).toNat ≤ 35184372088832 then (if 0 ≤ x10_1 then (if x10_1 < (x9_1.length : Int) then (spec_baRest.l1 k1 a0 a1 a2 a3 (x9_1.set (x10_1 : Int).toNat (List.replicate (ji11 : Int).toNat 0)) x10_1 0) else (none)) else (none)) else (none)) else (none)) = some r := by first | (rw [hji11] at H; exact H) | (simp only [hji11] at H ⊢; exact H)
            have hji11w : (IntKind.i64.wrap (a0 + 1)) = ji11 := (i64_w _).trans hji11
            by_cases c12 : 0 ≤ (ji11)
            · rw [if_pos c12] at H
              have c12b0 := eq_true c12
              have c12b1 : decide (0 ≤ (ji11)) = true := decide_eq_true c12
              clear c12
              by_cases c13 : (ji11 : Int).toNat ≤ 35184372088832
              · rw [if_pos c13] at H
                have c13b0 := eq_true c13
                have c13b1 : decide ((ji11 : Int).toNat ≤ 35184372088832) = true := decide_eq_true c13
                clear c13
                obtain ⟨y120, hy120⟩ : ∃ y_ : List Int, y_ = (List.replicate (ji11 : Int).toNat 0) := ⟨_, rfl⟩
                replace H : (if 0 ≤ x10_1 then (if x10_1 < (x9_1.length : Int) then (spec_baRest.l1 k1 a0 a1 a2 a3 (x9_1.set (x10_1 : Int).toNat y120) x10_1 0) else (none)) else (none)) = some r := by first | (rw [hy120]; with_reducible exact H) | (have H2_ := (Option.bind_some _ _).symm.trans H; rw [hy120]; with_reducible exact H2_) | (have H2_ := (Option.bind_some _ _).symm.trans H; with_reducible exact H2_) | with_reducible exact H | (rw [hy120]; exact H) | exact H
                have Ny120 := Aside0.mk hy120
                clear hy120
                by_cases c14 : 0 ≤ x10_1
                · rw [if_pos c14] at H
                  have c14b0 : decide (0 ≤ x10_1) = true := decide_eq_true c14
                  clear c14
                  by_cases c15 : x10_1 < (x9_1.length : Int)
                  · rw [if_pos c15] at H
                    have c15b0 : decide (x10_1 < (x9_1.length : Int)) = true := decide_eq_true c15
                    clear c15
                    obtain ⟨y123, hy123⟩ : ∃ y_ : List (List Int), y_ = (x9_1.set (x10_1 : Int).toNat y120) := ⟨_, rfl⟩
                    replace H : (spec_baRest.l1 k1 a0 a1 a2 a3 y123 x10_1 0) = some r := by first | (rw [hy123]; with_reducible exact H) | (have H2_ := (Option.bind_some _ _).symm.trans H; rw [hy123]; with_reducible exact H2_) | (have H2_ := (Option.bind_some _ _).symm.trans H; with_reducible exact H2_) | with_reducible exact H | (rw [hy123]; exact H) | exact H
                    have Ny123 := Aside0.mk hy123
                    clear hy123
                    have H' := Aside0.mk H
                    clear H
                    go_wp2_with (first | ((with_reducible refine gate_dst (N := 25) rfl ?_); refine Kd.R_make (Kd.int .i64) _ 3 rfl (N := 25) rfl 28 _ _ rfl ji11 rfl rfl Try.underlying28 (.int .i64 0) 8 info3 rfl (by decide) (by omega) 0 (ok := fun _ => True) (okp := fun _ => True) rfl (fun _ hk => hk) trivial (of_decide_eq_true (by first | (with_reducible assumption) | assumption)) (Nat.le_trans (Nat.mul_le_mul_right _ (of_decide_eq_true (by first | (with_reducible assumption) | assumption) : ji11.toNat ≤ 35184372088832)) (by omega)) (Below.refl _ _) (Nat.le_refl _) ?_; intro v121 w17 ho18 hb hg_ hnew_; clear hg_ hnew_; (first | rw [← Ny120.out] at ho18 | (simp only [Int.reduceToNat] at ho18; rw [← Ny120.out] at ho18)); have n0_ := Aside0.mk (Kd.S_elder' (by (with_reducible repeat (first | apply Kd.S_alloc | apply Kd.S_drewN | apply Kd.S_drew)); exact HO_9.out) (Kd.R_base ho18) hb); have n1_ := Aside0.mk (Kd.R_lower ho18 (below_size (by repeat (first | (with_reducible first | exact HB.out | apply below_alloc | apply pw_below_drewN | apply below_drew1) | exact HB.out)))); have n2_ := Aside0.mk (below_step (by repeat (first | (with_reducible first | exact HB.out | apply below_alloc | apply pw_below_drewN | apply below_drew1) | exact HB.out)) hb); clear HO_9; clear HB; have HO_9 := n0_; have HO122 := n1_; have HB := n2_; clear n0_ n1_ n2_; clear hb ho18; have p16 : 0 ≤ (x10_1 : Int) := of_decide_eq_true (by first | (with_reducible assumption) | assumption); have q16 : (x10_1 : Int) < ((x9_1.length : Int) : Int) := of_decide_eq_true (by first | (with_reducible assumption) | assumption); obtain ⟨go16, co16, eo16, gb16, gl16, cl16, HG16⟩ := Kd.S_form HO_9.out (by omega); (first | cases eo16 | (injection eo16 with ea_ en_ ec_; (first | subst ea_ | (injection ea_ with ea_; subst ea_)); subst ec_; clear en_)); have GB16 := Aside0.mk gb16; have GG16 := Aside0.mk HG16; clear gb16 gl16 HG16; obtain ⟨_, ce16, hcl16, hM16, hcc16, hfr16, _, _⟩ := Kd.S_elem HO_9.out [] (x10_1 : Int) p16 q16; obtain ⟨ve16_0, rfl, ge16_0⟩ := hM16; have hx16_0 := hcc16 0 _ rfl; have hf16_0 := hfr16 0; (try simp only [show ((Kd.slice 3 (Kd.int .i64))).sz = 1 from rfl, Nat.mul_one, Nat.add_zero] at hx16_0); (try simp only [show ((Kd.slice 3 (Kd.int .i64))).sz = 1 from rfl, Nat.mul_one, Nat.add_zero] at hf16_0); (try clear hM16); clear hcl16 hcc16 hfr16; replace p16 := eq_true p16; replace q16 := eq_true q16; have n_ := Aside0.mk (Kd.S_mono (ok' := (fun k_ => some k_ ≠ (v121 : Value).ownBlock)) HO_9.out (fun k_ hk => hk.2)); clear HO_9; have HO_9 := n_; clear n_; have HX19 := Aside0.mk (show Kd.S (Kd.slice 3 (Kd.int .i64)) 28 w17 w.heap.size (fun k_ => ((fun _ => True)) k_ ∧ ¬ ((fun k_ => some k_ = (v121 : Value).ownBlock)) k_) (.slice (some ⟨go16, 0, none⟩) x9_1.length co16) x9_1 from (by (with_reducible repeat (first | apply Kd.S_alloc | apply Kd.S_drewN | apply Kd.S_drew)); exact Kd.S_mono HO_9.out (fun k_ hk => ⟨trivial, fun e_ => hk e_⟩))); obtain ⟨oki19, ce19, hcl19, hM19, hcc19, hfr19, hoki19, hH19⟩ := Kd.S_elem HX19.out [] (x10_1 : Int) (of_decide_eq_true (by first | (with_reducible assumption) | assumption)) (by have h_ : (x10_1 : Int) < ((x9_1.length : Int) : Int) := of_decide_eq_true (by first | (with_reducible assumption) | assumption); first | exact h_ | (have e_ := (Kd.S_reads' HO_9.out).1; omega) | simpa using h_); obtain ⟨ve19_0, rfl, ge19_0⟩ := hM19; have HP19 := Kd.S_seg hH19 (of_decide_eq_true (by first | (with_reducible assumption) | assumption)) (by have h_ : (x10_1 : Int) < ((x9_1.length : Int) : Int) := of_decide_eq_true (by first | (with_reducible assumption) | assumption); first | exact h_ | (have e_ := (Kd.S_reads' HO_9.out).1; omega) | simpa using h_) (seg := [v121]) (j := 0) (show 1 ≤ 1 from by decide) (x' := y120) (Kd.M_row (Kd.R_mono (Kd.R_tight rfl (Kd.R_mono (ok' := fun k_ => ((fun _ => True)) k_ ∧ k_ ≠ go16) (Kd.R_apart' (HO122.out) (Kd.S_typed HO_9.out) (by decide)) (fun k_ hk => ⟨trivial, fun e_ => (hk.2) (by rw [e_]; rfl)⟩))) (fun _ h_ => Or.inr (h_)))) (fun _ hk => hk) (fun k_ hk_ => ((Kd.R_mono (ok' := fun k_ => ((fun _ => True)) k_ ∧ k_ ≠ go16) (Kd.R_apart' (HO122.out) (Kd.S_typed HO_9.out) (by decide)) (fun k_ hk => ⟨trivial, fun e_ => (hk.2) (by rw [e_]; rfl)⟩))).1 k_ hk_.symm); have hx19_0 := hcc19 0 _ rfl; (try simp only [show ((Kd.slice 3 (Kd.int .i64))).sz = 1 from rfl, Nat.mul_one, Nat.add_zero] at hx19_0); have hf19_0 := hfr19 0; (try simp only [show ((Kd.slice 3 (Kd.int .i64))).sz = 1 from rfl, Nat.mul_one, Nat.add_zero] at hf19_0); (try clear hM19); clear hcl19 hcc19 hfr19 hoki19 hH19; (try simp only [show ((Kd.slice 3 (Kd.int .i64))).sz = 1 from rfl, Nat.mul_one, Nat.add_zero] at HP19)) | ((with_reducible refine gate_store (t := 28) (p := 26) rfl ?_); refine store_event (t := 28) (p := 26) (v := ?vo_w20) (w1 := (w17.setCell ⟨go16, (x10_1 : Int).toNat, none⟩ (v121))) ?hg ?ho ?hn ?hr ?_; (case ho => rfl); (case hg => rfl); (case hn => rfl); (case hr => (obtain ⟨A_, c_, e_⟩ := Kd.R_slice HO122.out; subst e_; first | (go_simp; done) | (go_simp; rfl))); intro w20 hw; have hg : w17.grownBy w20 (some go16) := (by rw [hw]; exact HP19.2); have hp_ : Kd.S (Kd.slice 3 (Kd.int .i64)) 28 w20 w.heap.size (fun _ => True) (.slice (some ⟨go16, 0, none⟩) x9_1.length co16) y123 := (by rw [hw, Ny123.out]; exact HP19.1); clear HP19; have n0_ := Aside0.mk (hp_); have n1_ := Aside0.mk ((by rw [hw]; exact below_set (HB.out) GB16.out : Below w.heap.size w w20)); clear HO_9; clear HB; clear HO122; have HO_9 := n0_; have HB := n1_; clear n0_ n1_; clear hg hw hp_))
                    go_loopg [11] k1 (fun kq v11 w' => ∃ (x9_2 : List (List Int)) (x11_2 : Int), v11 = .int .i64 x11_2 ∧ Aside0 (spec_baRest.l1 kq a0 a1 a2 a3 x9_2 x10_1 x11_2 = some r) ∧ Aside0 (kq ≤ k1) ∧ Aside0 (Kd.S (Kd.slice 3 (Kd.int .i64)) 28 w' w.heap.size (fun _ => True) (.slice (some ⟨go16, 0, none⟩) x9_1.length co16) x9_2) ∧ Aside0 (Below w.heap.size w w'))
                    case atStart => exact ⟨(y123), (0), (by first | rfl | (simp; done) | (simp [*]; done)), H', ⟨Nat.le_refl _⟩, ⟨by (with_reducible repeat (first | apply Kd.S_alloc | apply Kd.S_drewN | apply Kd.S_drew)); exact HO_9.out⟩, ⟨by repeat (first | (with_reducible first | exact HB.out | apply below_alloc | apply pw_below_drewN | apply below_drew1) | exact HB.out)⟩⟩
                    case round =>
                      clear H'
                      try clear c1
                      try clear p1
                      try clear q1
                      try clear hx1
                      try clear p2
                      try clear c6
                      try clear c6b0
                      try clear c6b1
                      try clear p6
                      try clear c7
                      try clear c7b0
                      try clear c7b1
                      try clear c10
                      try clear c10b0
                      try clear c12
                      try clear c12b0
                      try clear c12b1
                      try clear c13
                      try clear c13b0
                      try clear c13b1
                      try clear c14
                      try clear c14b0
                      try clear c15
                      try clear c15b0
                      try clear c16
                      try clear p16
                      try clear q16
                      try clear hx16
                      try clear hf16
                      try clear c19
                      try clear hx19
                      try clear hf19
                      try clear hx16_0
                      try clear hx19_0
                      try clear p16
                      try clear p2
                      try clear p6
                      try clear q16
                      obtain ⟨x9_2, x11_2, rfl, HA, HK2, HO_9, HB⟩ := hrel
                      have hl9_2 := (Kd.S_reads' HO_9.out).1
                      rw [hl9_2] at HO_9
                      (try simp only [hl9_2])
                      cases gk with
                      | zero => exact absurd HA.out (by simp [spec_baRest.l1])
                      | succ k2 =>
                        have H := HA.out
                        clear HA
                        simp only [spec_baRest.l1] at H
                        by_cases c21 : x11_2 ≤ a0
                        · rw [if_pos c21] at H
                          have c21b0 : decide (x11_2 ≤ a0) = true := decide_eq_true c21
                          clear c21
                          by_cases c22 : (wrap64 ((wrap64 (a3 + (wrap64 (a0 - x11_2)))) - (wrap64 (a2 * (wrap64 (a1 - x10_1)))))) < 0
                          · rw [if_pos c22] at H
                            have c22b0 : decide ((wrap64 ((wrap64 (a3 + (wrap64 (a0 - x11_2)))) - (wrap64 (a2 * (wrap64 (a1 - x10_1)))))) < 0) = true := decide_eq_true c22
                            clear c22
                            have H' := Aside0.mk H
                            clear H
                            go_wp2
                            (try simp only [← hl9_2])
                            go_roundg k2
                            case measure => have := HK1.out; have := HK2.out; omega
                            case rel => exact ⟨(x9_2), (wrap64 (x11_2 + 1)), (by first | rfl | (simp; done) | (simp [*]; done)), H', ⟨by have := HK1.out; have := HK2.out; omega⟩, ⟨by (try simp only [hl9_2]); (with_reducible repeat (first | apply Kd.S_alloc | apply Kd.S_drewN | apply Kd.S_drew)); exact HO_9.out⟩, ⟨by repeat (first | (with_reducible first | exact HB.out | apply below_alloc | apply pw_below_drewN | apply below_drew1) | exact HB.out)⟩⟩
                          · rw [if_neg c22] at H
                            have c22b0 : decide ((wrap64 ((wrap64 (a3 + (wrap64 (a0 - x11_2)))) - (wrap64 (a2 * (wrap64 (a1 - x10_1)))))) < 0) = false := decide_eq_false c22
                            clear c22
                            by_cases c23 : (wrap64 (x11_2 + x10_1)) = 0
                            · rw [if_pos c23] at H
                              have c23b0 : ((wrap64 (x11_2 + x10_1)) == 0) = true := beq_iff_eq.mpr c23
                              have c23b1 : ((wrap64 (x11_2 + x10_1)) != 0) = false := bne_eq_false_iff_eq.mpr c23
                              clear c23
                              by_cases c24 : 0 ≤ x10_1
                              · rw [if_pos c24] at H
                                have c24b0 : decide (0 ≤ x10_1) = true := decide_eq_true c24
                                clear c24
                                by_cases c25 : x10_1 < (x9_2.length : Int)
                                · rw [if_pos c25] at H
                                  have c25b0 : decide (x10_1 < (x9_2.length : Int)) = true := decide_eq_true c25
                                  (try (have c25b79_2 := c25b0; rw [hl9_2] at c25b79_2))
                                  clear c25
                                  by_cases c26 : 0 ≤ x11_2
                                  · rw [if_pos c26] at H
                                    have c26b0 : decide (0 ≤ x11_2) = true := decide_eq_true c26
                                    clear c26
                                    by_cases c27 : x11_2 < ((rd_L1 x9_2 x10_1).length : Int)
                                    · rw [if_pos c27] at H
                                      have c27b0 : decide (x11_2 < ((rd_L1 x9_2 x10_1).length : Int)) = true := decide_eq_true c27
                                      clear c27
                                      obtain ⟨y125, hy125⟩ : ∃ y_ : List Int, y_ = ((rd_L1 x9_2 x10_1).set (x11_2 : Int).toNat 1) := ⟨_, rfl⟩
                                      replace H : (spec_baRest.l1 k2 a0 a1 a2 a3 (x9_2.set (x10_1 : Int).toNat y125) x10_1 (wrap64 (x11_2 + 1))) = some r := by first | (rw [hy125]; with_reducible exact H) | (have H2_ := (Option.bind_some _ _).symm.trans H; rw [hy125]; with_reducible exact H2_) | (have H2_ := (Option.bind_some _ _).symm.trans H; with_reducible exact H2_) | with_reducible exact H | (rw [hy125]; exact H) | exact H
                                      have Ny125 := Aside0.mk hy125
                                      clear hy125
                                      obtain ⟨y127, hy127⟩ : ∃ y_ : List (List Int), y_ = (x9_2.set (x10_1 : Int).toNat y125) := ⟨_, rfl⟩
                                      replace H : (spec_baRest.l1 k2 a0 a1 a2 a3 y127 x10_1 (wrap64 (x11_2 + 1))) = some r := by first | (rw [hy127]; with_reducible exact H) | (have H2_ := (Option.bind_some _ _).symm.trans H; rw [hy127]; with_reducible exact H2_) | (have H2_ := (Option.bind_some _ _).symm.trans H; with_reducible exact H2_) | with_reducible exact H | (rw [hy127]; exact H) | exact H
                                      have Ny127 := Aside0.mk hy127
                                      clear hy127
                                      have H' := Aside0.mk H
                                      clear H
                                      have p124 : 0 ≤ (x10_1 : Int) := of_decide_eq_true (by first | (with_reducible assumption) | assumption)
                                      have q124 : x10_1 < (x9_2.length : Int) := of_decide_eq_true (by first | (with_reducible assumption) | assumption)
                                      obtain ⟨ad124, A124_0, c124_0, e124, hx124_0, hl124_0, hi124_0⟩ := at_L1 (Kd.S_reads' HO_9.out).2.2 x10_1 p124 q124
                                      obtain rfl : (⟨go16, 0, none⟩ : Addr) = ad124 := (by injection e124)
                                      obtain ⟨ce124, hce124, hMe124, hcc124⟩ := Kd.S_get HO_9.out [] x10_1 p124 (by first | exact q124 | exact of_decide_eq_true (by first | (with_reducible assumption) | assumption) | (have e_ := (Kd.S_reads' HO_9.out).1; omega))
                                      obtain ⟨ve124_0, rfl, ge124_0⟩ := hMe124
                                      have hv124_0 := hcc124 0 _ rfl
                                      rw [Nat.add_zero, show ((Kd.slice 3 (Kd.int .i64))).sz = 1 from rfl, Nat.mul_one] at hv124_0
                                      replace hv124_0 := Option.some.inj (hv124_0.symm.trans hx124_0)
                                      rw [hv124_0] at ge124_0
                                      have HL124_0 := Aside0.mk (show Kd.R (Kd.int .i64) 3 _ _ _ _ (rd_L1 x9_2 x10_1) from ge124_0)
                                      clear hv124_0 ge124_0
                                      have HX124_0 := Aside0.mk hx124_0
                                      clear hcc124 hce124
                                      (first | simp only [add_plain] at hx124_0 | simp only [add_at] at hx124_0 | simp only [Addr.add, Nat.zero_add] at hx124_0 | skip)
                                      have HR124_0 := Aside0.mk hi124_0
                                      have HC124_0 := Aside0.mk hl124_0
                                      clear hi124_0 hl124_0
                                      replace p124 := eq_true p124
                                      replace q124 := eq_true q124
                                      have p28 : 0 ≤ (x11_2 : Int) := of_decide_eq_true (by first | (with_reducible assumption) | assumption)
                                      have q28 : (x11_2 : Int) < (((rd_L1 x9_2 x10_1).length : Int) : Int) := of_decide_eq_true (by first | (with_reducible assumption) | assumption)
                                      obtain ⟨go28, co28, eo28, gb28, gl28, cl28, HG28⟩ := Kd.R_form HL124_0.out (by omega)
                                      (first | cases eo28 | (injection eo28 with ea_ en_ ec_; (first | subst ea_ | (injection ea_ with ea_; subst ea_)); subst ec_; clear en_))
                                      have GB28 := Aside0.mk gb28
                                      have GG28 := Aside0.mk HG28
                                      clear gb28 gl28 HG28
                                      obtain ⟨hx28_0, hf28_0⟩ := Kd.R_celln 0 HL124_0.out (x11_2 : Int) p28 q28
                                      replace p28 := eq_true p28
                                      replace q28 := eq_true q28
                                      have hq29 : (x10_1 : Int) < (x9_2.length : Int) := (by have h_ : (x10_1 : Int) < ((x9_2.length : Int) : Int) := of_decide_eq_true (by first | (with_reducible assumption) | assumption); first | exact h_ | (have e_ := (Kd.S_reads' HO_9.out).1; omega) | simpa only [List.length_set, List.length_set] using h_)
                                      obtain ⟨oki29, ce29, hcl29, hM29, hcc29, hok29, hbk29⟩ := Kd.S_borrow HO_9.out [] (x10_1 : Int) (of_decide_eq_true (by first | (with_reducible assumption) | assumption)) (by first | exact hq29 | (have e_ := (Kd.S_reads' HO_9.out).1; omega))
                                      obtain ⟨ve29_0, rfl, ge29_0⟩ := hM29
                                      have hv29 := hcc29 0 _ rfl
                                      rw [Nat.add_zero, show ((Kd.slice 3 (Kd.int .i64))).sz = 1 from rfl, Nat.mul_one] at hv29
                                      replace hv29 := Option.some.inj (hv29.symm.trans HX124_0.out)
                                      subst hv29
                                      clear hcc29 hcl29
                                      replace ge29_0 := (show Kd.R (Kd.int .i64) 3 _ _ _ _ (rd_L1 x9_2 x10_1) from ge29_0)
                                      have HP29 := Kd.R_putg ge29_0 (x11_2 : Int) 1
                                      go_wp2_with (first | ((with_reducible refine gate_store (t := 3) (p := 100) rfl ?_); refine store_event (t := 3) (p := 100) (v := ?vo_w30) (w1 := (wr.setCell ⟨go28, (x11_2 : Int).toNat, none⟩ (.int .i64 1))) ?hg ?ho ?hn ?hr ?_; (case ho => rfl); (case hg => rfl); (case hn => rfl); (case hr => first | (go_simp; done) | (go_simp; rfl)); intro w30 hw; have hg : wr.grownBy w30 (some go28) := (by rw [hw]; exact HP29.2); have hz_ : Kd.R (Kd.int .i64) 3 w30 w.heap.size oki29 (.slice (some ⟨go28, 0, none⟩) (rd_L1 x9_2 x10_1).length c124_0) y125 := (by rw [hw, Ny125.out]; exact HP29.1); have hp_ : Kd.S (Kd.slice 3 (Kd.int .i64)) 28 w30 w.heap.size (fun _ => True) (.slice (some ⟨go16, 0, none⟩) x9_2.length co16) y127 := (by rw [Ny127.out]; exact hbk29 hg (fun k_ e_ => by injection e_ with e_; subst e_; exact ge29_0.1 _ rfl) (Kd.M_row hz_)); have hm_ := Kd.R_mono hz_ hok29; clear HP29 hbk29; have n0_ := Aside0.mk (hp_); have n1_ := Aside0.mk ((by rw [hw]; exact below_set (HB.out) GB28.out : Below w.heap.size w w30)); have n2_ := Aside0.mk (hm_); have n3_ := Aside0.mk ((Kd.R_reads' hm_).2.1); clear HO_9; clear HB; clear HL124_0; have HO_9 := n0_; have HB := n1_; have HL149 := n2_; have HC126 := n3_; clear n0_ n1_ n2_ n3_; clear hg hw hp_ hz_ hm_ hok29))
                                      (try simp only [← hl9_2])
                                      go_roundg k2
                                      case measure => have := HK1.out; have := HK2.out; omega
                                      case rel => exact ⟨(y127), (wrap64 (x11_2 + 1)), (by first | rfl | (simp; done) | (simp [*]; done)), H', ⟨by have := HK1.out; have := HK2.out; omega⟩, ⟨by (try simp only [hl9_2]); (with_reducible repeat (first | apply Kd.S_alloc | apply Kd.S_drewN | apply Kd.S_drew)); exact HO_9.out⟩, ⟨by repeat (first | (with_reducible first | exact HB.out | apply below_alloc | apply pw_below_drewN | apply below_drew1) | exact HB.out)⟩⟩
                                    · rw [if_neg c27] at H
                                      exact absurd H (by simp)
                                  · rw [if_neg c26] at H
                                    exact absurd H (by simp)
                                · rw [if_neg c25] at H
                                  exact absurd H (by simp)
                              · rw [if_neg c24] at H
                                exact absurd H (by simp)
                            · rw [if_neg c23] at H
                              have c23b0 : ((wrap64 (x11_2 + x10_1)) == 0) = false := beq_eq_false_iff_ne.mpr c23
                              have c23b1 : ((wrap64 (x11_2 + x10_1)) != 0) = true := bne_iff_ne.mpr c23
                              by_cases c31 : x11_2 > 0
                              · rw [if_pos c31] at H
                                have c31b0 : decide (0 < x11_2) = true := decide_eq_true c31
                                clear c31
                                by_cases c32 : 0 ≤ x10_1
                                · rw [if_pos c32] at H
                                  have c32b0 : decide (0 ≤ x10_1) = true := decide_eq_true c32
                                  clear c32
                                  by_cases c33 : x10_1 < (x9_2.length : Int)
                                  · rw [if_pos c33] at H
                                    have c33b0 : decide (x10_1 < (x9_2.length : Int)) = true := decide_eq_true c33
                                    (try (have c33b79_2 := c33b0; rw [hl9_2] at c33b79_2))
                                    clear c33
                                    by_cases c34 : 0 ≤ x11_2
                                    · rw [if_pos c34] at H
                                      have c34b0 : decide (0 ≤ x11_2) = true := decide_eq_true c34
                                      clear c34
                                      by_cases c35 : x11_2 < ((rd_L1 x9_2 x10_1).length : Int)
                                      · rw [if_pos c35] at H
                                        have c35b0 : decide (x11_2 < ((rd_L1 x9_2 x10_1).length : Int)) = true := decide_eq_true c35
                                        clear c35
                                        obtain ⟨ji36, hji36⟩ : ∃ j_ : Int, (wrap64 (x11_2 - 1)) = j_ := ⟨_, rfl⟩
                                        replace H : (if 0 ≤ (ji36) then (if (ji36) < ((rd_L1 x9_2 x10_1).length : Int) then ((some (x9_2.set (x10_1 : Int).toNat ((rd_L1 x9_2 x10_1).set (x11_2 : Int).toNat (wrap64 ((rd (rd_L1 x9_2 x10_1) x11_2) + (rd (rd_L1 x9_2 x10_1) (ji36))))) : List (List Int))).bind fun y134 => (if x10_1 > 0 then (if (wrap64 ((wrap64 ((wrap64 (a3 + (wrap64 (a0 - x11_2)))) - (wrap64 (a2 * (wrap64 (a1 - x10_1)))))) - a2)) ≥ 0 then (if x11_2 < ((rd_L1 y134 x10_1).length : Int) then (if 0 ≤ (wrap64 (x10_1 - 1)) then (if (wrap64 (x10_1 - 1)) < (x9_2.length : Int) then (if x11_2 < ((rd_L1 y134 (wrap64 (x10_1 - 1))).length : Int) then (spec_baRest.l1 k2 a0 a1 a2 a3 (y134.set (x10_1 : Int).toNat ((rd_L1 y134 x10_1).set (x11_2 : Int).toNat (wrap64 ((rd (rd_L1 y134 x10_1) x11_2) + (rd (rd_L1 y134 (wrap64 (x10_1 - 1))) x11_2))))) x10_1 (wrap64 (x11_2 + 1))) else (none)) else (none)) else (none)) else (none)) else (spec_baRest.l1 k2 a0 a1 a2 a3 y134 x10_1 (wrap64 (x11_2 + 1)))) else (spec_baRest.l1 k2 a0 a1 a2 a3 y134 x10_1 (wrap64 (x11_2 + 1))))) else (none)) else (none)) = some r := by first | (rw [hji36] at H; exact H) | (simp only [hji36] at H ⊢; exact H)
                                        have hji36w : (IntKind.i64.wrap (x11_2 - 1)) = ji36 := (i64_w _).trans hji36
                                        by_cases c37 : 0 ≤ (ji36)
                                        · rw [if_pos c37] at H
                                          have c37b0 : decide (0 ≤ (ji36)) = true := decide_eq_true c37
                                          clear c37
                                          by_cases c38 : (ji36) < ((rd_L1 x9_2 x10_1).length : Int)
                                          · rw [if_pos c38] at H
                                            have c38b0 : decide ((ji36) < ((rd_L1 x9_2 x10_1).length : Int)) = true := decide_eq_true c38
                                            clear c38
                                            obtain ⟨y132, hy132⟩ : ∃ y_ : List Int, y_ = ((rd_L1 x9_2 x10_1).set (x11_2 : Int).toNat (wrap64 ((rd (rd_L1 x9_2 x10_1) x11_2) + (rd (rd_L1 x9_2 x10_1) (ji36))))) := ⟨_, rfl⟩
                                            replace H : ((some (x9_2.set (x10_1 : Int).toNat y132 : List (List Int))).bind fun y134 => (if x10_1 > 0 then (if (wrap64 ((wrap64 ((wrap64 (a3 + (wrap64 (a0 - x11_2)))) - (wrap64 (a2 * (wrap64 (a1 - x10_1)))))) - a2)) ≥ 0 then (if x11_2 < ((rd_L1 y134 x10_1).length : Int) then (if 0 ≤ (wrap64 (x10_1 - 1)) then (if (wrap64 (x10_1 - 1)) < (x9_2.length : Int) then (if x11_2 < ((rd_L1 y134 (wrap64 (x10_1 - 1))).length : Int) then (spec_baRest.l1 k2 a0 a1 a2 a3 (y134.set (x10_1 : Int).toNat ((rd_L1 y134 x10_1).set (x11_2 : Int).toNat (wrap64 ((rd (rd_L1 y134 x10_1) x11_2) + (rd (rd_L1 y134 (wrap64 (x10_1 - 1))) x11_2))))) x10_1 (wrap64 (x11_2 + 1))) else (none)) else (none)) else (none)) else (none)) else (spec_baRest.l1 k2 a0 a1 a2 a3 y134 x10_1 (wrap64 (x11_2 + 1)))) else (spec_baRest.l1 k2 a0 a1 a2 a3 y134 x10_1 (wrap64 (x11_2 + 1))))) = some r := by first | (rw [hy132]; with_reducible exact H) | (have H2_ := (Option.bind_some _ _).symm.trans H; rw [hy132]; with_reducible exact H2_) | (have H2_ := (Option.bind_some _ _).symm.trans H; with_reducible exact H2_) | with_reducible exact H | (rw [hy132]; exact H) | exact H
                                            have Ny132 := Aside0.mk hy132
                                            clear hy132
                                            obtain ⟨y134, hy134⟩ : ∃ y_ : List (List Int), y_ = (x9_2.set (x10_1 : Int).toNat y132) := ⟨_, rfl⟩
                                            replace H : (if x10_1 > 0 then (if (wrap64 ((wrap64 ((wrap64 (a3 + (wrap64 (a0 - x11_2)))) - (wrap64 (a2 * (wrap64 (a1 - x10_1)))))) - a2)) ≥ 0 then (if x11_2 < ((rd_L1 y134 x10_1).length : Int) then (if 0 ≤ (wrap64 (x10_1 - 1)) then (if (wrap64 (x10_1 - 1)) < (x9_2.length : Int) then (if x11_2 < ((rd_L1 y134 (wrap64 (x10_1 - 1))).length : Int) then (spec_baRest.l1 k2 a0 a1 a2 a3 (y134.set (x10_1 : Int).toNat ((rd_L1 y134 x10_1).set (x11_2 : Int).toNat (wrap64 ((rd (rd_L1 y134 x10_1) x11_2) + (rd (rd_L1 y134 (wrap64 (x10_1 - 1))) x11_2))))) x10_1 (wrap64 (x11_2 + 1))) else (none)) else (none)) else (none)) else (none)) else (spec_baRest.l1 k2 a0 a1 a2 a3 y134 x10_1 (wrap64 (x11_2 + 1)))) else (spec_baRest.l1 k2 a0 a1 a2 a3 y134 x10_1 (wrap64 (x11_2 + 1)))) = some r := by first | (rw [hy134]; with_reducible exact H) | (have H2_ := (Option.bind_some _ _).symm.trans H; rw [hy134]; with_reducible exact H2_) | (have H2_ := (Option.bind_some _ _).symm.trans H; with_reducible exact H2_) | with_reducible exact H | (rw [hy134]; exact H) | exact H
                                            have Ny134 := Aside0.mk hy134
                                            clear hy134
                                            by_cases c40 : x10_1 > 0
                                            · rw [if_pos c40] at H
                                              have c40b0 : decide (0 < x10_1) = true := decide_eq_true c40
                                              clear c40
                                              by_cases c41 : (wrap64 ((wrap64 ((wrap64 (a3 + (wrap64 (a0 - x11_2)))) - (wrap64 (a2 * (wrap64 (a1 - x10_1)))))) - a2)) ≥ 0
                                              · rw [if_pos c41] at H
                                                have c41b0 : decide (0 ≤ (wrap64 ((wrap64 ((wrap64 (a3 + (wrap64 (a0 - x11_2)))) - (wrap64 (a2 * (wrap64 (a1 - x10_1)))))) - a2))) = true := decide_eq_true c41
                                                clear c41
                                                by_cases c42 : x11_2 < ((rd_L1 y134 x10_1).length : Int)
                                                · rw [if_pos c42] at H
                                                  have c42b0 : decide (x11_2 < ((rd_L1 y134 x10_1).length : Int)) = true := decide_eq_true c42
                                                  clear c42
                                                  obtain ⟨ji43, hji43⟩ : ∃ j_ : Int, (wrap64 (x10_1 - 1)) = j_ := ⟨_, rfl⟩
                                                  replace H : (if 0 ≤ (ji43) then (if (ji43) < (x9_2.length : Int) then (if x11_2 < ((rd_L1 y134 (ji43)).length : Int) then (spec_baRest.l1 k2 a0 a1 a2 a3 (y134.set (x10_1 : Int).toNat ((rd_L1 y134 x10_1).set (x11_2 : Int).toNat (wrap64 ((rd (rd_L1 y134 x10_1) x11_2) + (rd (rd_L1 y134 (ji43)) x11_2))))) x10_1 (wrap64 (x11_2 + 1))) else (none)) else (none)) else (none)) = some r := by first | (rw [hji43] at H; exact H) | (simp only [hji43] at H ⊢; exact H)
                                                  have hji43w : (IntKind.i64.wrap (x10_1 - 1)) = ji43 := (i64_w _).trans hji43
                                                  by_cases c44 : 0 ≤ (ji43)
                                                  · rw [if_pos c44] at H
                                                    have c44b0 : decide (0 ≤ (ji43)) = true := decide_eq_true c44
                                                    clear c44
                                                    by_cases c45 : (ji43) < (x9_2.length : Int)
                                                    · rw [if_pos c45] at H
                                                      have c45b0 : decide ((ji43) < (x9_2.length : Int)) = true := decide_eq_true c45
                                                      clear c45
                                                      by_cases c46 : x11_2 < ((rd_L1 y134 (ji43)).length : Int)
                                                      · rw [if_pos c46] at H
                                                        have c46b0 : decide (x11_2 < ((rd_L1 y134 (ji43)).length : Int)) = true := decide_eq_true c46
                                                        clear c46
                                                        obtain ⟨y139, hy139⟩ : ∃ y_ : List Int, y_ = ((rd_L1 y134 x10_1).set (x11_2 : Int).toNat (wrap64 ((rd (rd_L1 y134 x10_1) x11_2) + (rd (rd_L1 y134 (ji43)) x11_2)))) := ⟨_, rfl⟩
                                                        replace H : (spec_baRest.l1 k2 a0 a1 a2 a3 (y134.set (x10_1 : Int).toNat y139) x10_1 (wrap64 (x11_2 + 1))) = some r := by first | (rw [hy139]; with_reducible exact H) | (have H2_ := (Option.bind_some _ _).symm.trans H; rw [hy139]; with_reducible exact H2_) | (have H2_ := (Option.bind_some _ _).symm.trans H; with_reducible exact H2_) | with_reducible exact H | (rw [hy139]; exact H) | exact H
                                                        have Ny139 := Aside0.mk hy139
                                                        clear hy139
                                                        obtain ⟨y141, hy141⟩ : ∃ y_ : List (List Int), y_ = (y134.set (x10_1 : Int).toNat y139) := ⟨_, rfl⟩
                                                        replace H : (spec_baRest.l1 k2 a0 a1 a2 a3 y141 x10_1 (wrap64 (x11_2 + 1))) = some r := by first | (rw [hy141]; with_reducible exact H) | (have H2_ := (Option.bind_some _ _).symm.trans H; rw [hy141]; with_reducible exact H2_) | (have H2_ := (Option.bind_some _ _).symm.trans H; with_reducible exact H2_) | with_reducible exact H | (rw [hy141]; exact H) | exact H
                                                        have Ny141 := Aside0.mk hy141
                                                        clear hy141
                                                        have H' := Aside0.mk H
                                                        clear H
                                                        try go_wp2
                                                        have n0_ := Aside0.mk (Kd.S_drew HO_9.out)
                                                        have n1_ := Aside0.mk (below_drew1 HB.out)
                                                        clear HO_9
                                                        clear HB
                                                        have HO_9 := n0_
                                                        have HB := n1_
                                                        clear n0_ n1_
                                                        have p128 : 0 ≤ (x10_1 : Int) := of_decide_eq_true (by first | (with_reducible assumption) | assumption)
                                                        have q128 : x10_1 < (x9_2.length : Int) := of_decide_eq_true (by first | (with_reducible assumption) | assumption)
                                                        obtain ⟨ad128, A128_0, c128_0, e128, hx128_0, hl128_0, hi128_0⟩ := at_L1 (Kd.S_reads' HO_9.out).2.2 x10_1 p128 q128
                                                        obtain rfl : (⟨go16, 0, none⟩ : Addr) = ad128 := (by injection e128)
                                                        obtain ⟨ce128, hce128, hMe128, hcc128⟩ := Kd.S_get HO_9.out [] x10_1 p128 (by first | exact q128 | exact of_decide_eq_true (by first | (with_reducible assumption) | assumption) | (have e_ := (Kd.S_reads' HO_9.out).1; omega))
                                                        obtain ⟨ve128_0, rfl, ge128_0⟩ := hMe128
                                                        have hv128_0 := hcc128 0 _ rfl
                                                        rw [Nat.add_zero, show ((Kd.slice 3 (Kd.int .i64))).sz = 1 from rfl, Nat.mul_one] at hv128_0
                                                        replace hv128_0 := Option.some.inj (hv128_0.symm.trans hx128_0)
                                                        rw [hv128_0] at ge128_0
                                                        have HL128_0 := Aside0.mk (show Kd.R (Kd.int .i64) 3 _ _ _ _ (rd_L1 x9_2 x10_1) from ge128_0)
                                                        clear hv128_0 ge128_0
                                                        have HX128_0 := Aside0.mk hx128_0
                                                        clear hcc128 hce128
                                                        (first | simp only [add_plain] at hx128_0 | simp only [add_at] at hx128_0 | simp only [Addr.add, Nat.zero_add] at hx128_0 | skip)
                                                        have HR128_0 := Aside0.mk hi128_0
                                                        have HC128_0 := Aside0.mk hl128_0
                                                        clear hi128_0 hl128_0
                                                        replace p128 := eq_true p128
                                                        replace q128 := eq_true q128
                                                        have p129 : 0 ≤ (x11_2 : Int) := of_decide_eq_true (by first | (with_reducible assumption) | assumption)
                                                        have q129 : x11_2 < ((rd_L1 x9_2 x10_1).length : Int) := of_decide_eq_true (by first | (with_reducible assumption) | assumption)
                                                        obtain ⟨ad129, e129, hx129_0⟩ := Kd.at_int (by repeat (first | (with_reducible exact HR128_0.out) | (with_reducible refine Kd.C_alloc ?_ _) | (with_reducible refine Kd.C_drewN ?_ _) | (with_reducible refine Kd.C_drew ?_) | exact HR128_0.out)) x11_2 p129 q129
                                                        cases e129
                                                        replace p129 := eq_true p129
                                                        replace q129 := eq_true q129
                                                        have p130 : 0 ≤ (x10_1 : Int) := of_decide_eq_true (by first | (with_reducible assumption) | assumption)
                                                        have q130 : x10_1 < (x9_2.length : Int) := of_decide_eq_true (by first | (with_reducible assumption) | assumption)
                                                        obtain ⟨ad130, A130_0, c130_0, e130, hx130_0, hl130_0, hi130_0⟩ := at_L1 (Kd.S_reads' HO_9.out).2.2 x10_1 p130 q130
                                                        obtain rfl : (⟨go16, 0, none⟩ : Addr) = ad130 := (by injection e130)
                                                        obtain ⟨ce130, hce130, hMe130, hcc130⟩ := Kd.S_get HO_9.out [] x10_1 p130 (by first | exact q130 | exact of_decide_eq_true (by first | (with_reducible assumption) | assumption) | (have e_ := (Kd.S_reads' HO_9.out).1; omega))
                                                        obtain ⟨ve130_0, rfl, ge130_0⟩ := hMe130
                                                        have hv130_0 := hcc130 0 _ rfl
                                                        rw [Nat.add_zero, show ((Kd.slice 3 (Kd.int .i64))).sz = 1 from rfl, Nat.mul_one] at hv130_0
                                                        replace hv130_0 := Option.some.inj (hv130_0.symm.trans hx130_0)
                                                        rw [hv130_0] at ge130_0
                                                        have HL130_0 := Aside0.mk (show Kd.R (Kd.int .i64) 3 _ _ _ _ (rd_L1 x9_2 x10_1) from ge130_0)
                                                        clear hv130_0 ge130_0
                                                        have HX130_0 := Aside0.mk hx130_0
                                                        clear hcc130 hce130
                                                        (first | simp only [add_plain] at hx130_0 | simp only [add_at] at hx130_0 | simp only [Addr.add, Nat.zero_add] at hx130_0 | skip)
                                                        have HR130_0 := Aside0.mk hi130_0
                                                        have HC130_0 := Aside0.mk hl130_0
                                                        clear hi130_0 hl130_0
                                                        replace p130 := eq_true p130
                                                        replace q130 := eq_true q130
                                                        have ea_ := Option.some.inj (hx128_0.symm.trans hx130_0)
                                                        injection ea_ with ea_ en_ ec_
                                                        subst ea_
                                                        subst ec_
                                                        clear en_
                                                        have p131 : 0 ≤ ((ji36) : Int) := of_decide_eq_true (by first | (with_reducible assumption) | assumption)
                                                        have q131 : (ji36) < ((rd_L1 x9_2 x10_1).length : Int) := of_decide_eq_true (by first | (with_reducible assumption) | assumption)
                                                        obtain ⟨ad131, e131, hx131_0⟩ := Kd.at_int (by repeat (first | (with_reducible exact HR130_0.out) | (with_reducible refine Kd.C_alloc ?_ _) | (with_reducible refine Kd.C_drewN ?_ _) | (with_reducible refine Kd.C_drew ?_) | exact HR130_0.out)) (ji36) p131 q131
                                                        cases e131
                                                        replace p131 := eq_true p131
                                                        replace q131 := eq_true q131
                                                        have p39 : 0 ≤ (x11_2 : Int) := of_decide_eq_true (by first | (with_reducible assumption) | assumption)
                                                        have q39 : (x11_2 : Int) < (((rd_L1 x9_2 x10_1).length : Int) : Int) := of_decide_eq_true (by first | (with_reducible assumption) | assumption)
                                                        obtain ⟨go39, co39, eo39, gb39, gl39, cl39, HG39⟩ := Kd.R_form HL128_0.out (by omega)
                                                        (first | cases eo39 | (injection eo39 with ea_ en_ ec_; (first | subst ea_ | (injection ea_ with ea_; subst ea_)); subst ec_; clear en_))
                                                        have GB39 := Aside0.mk gb39
                                                        have GG39 := Aside0.mk HG39
                                                        clear gb39 gl39 HG39
                                                        (first | simp only [add_plain] at hx131_0 | skip)
                                                        obtain ⟨hx39_0, hf39_0⟩ := Kd.R_celln 0 HL128_0.out (x11_2 : Int) p39 q39
                                                        replace p39 := eq_true p39
                                                        replace q39 := eq_true q39
                                                        have hq49 : (x10_1 : Int) < (x9_2.length : Int) := (by have h_ : (x10_1 : Int) < ((x9_2.length : Int) : Int) := of_decide_eq_true (by first | (with_reducible assumption) | assumption); first | exact h_ | (have e_ := (Kd.S_reads' HO_9.out).1; omega) | simpa only [List.length_set, List.length_set] using h_)
                                                        obtain ⟨oki49, ce49, hcl49, hM49, hcc49, hok49, hbk49⟩ := Kd.S_borrow HO_9.out [] (x10_1 : Int) (of_decide_eq_true (by first | (with_reducible assumption) | assumption)) (by first | exact hq49 | (have e_ := (Kd.S_reads' HO_9.out).1; omega))
                                                        obtain ⟨ve49_0, rfl, ge49_0⟩ := hM49
                                                        have hv49 := hcc49 0 _ rfl
                                                        rw [Nat.add_zero, show ((Kd.slice 3 (Kd.int .i64))).sz = 1 from rfl, Nat.mul_one] at hv49
                                                        replace hv49 := Option.some.inj (hv49.symm.trans HX128_0.out)
                                                        subst hv49
                                                        clear hcc49 hcl49
                                                        replace ge49_0 := (show Kd.R (Kd.int .i64) 3 _ _ _ _ (rd_L1 x9_2 x10_1) from ge49_0)
                                                        have HP49 := Kd.R_putg ge49_0 (x11_2 : Int) (wrap64 ((rd (rd_L1 x9_2 x10_1) x11_2) + (rd (rd_L1 x9_2 x10_1) (ji36))))
                                                        rw [← Ny132.out] at HP49
                                                        have HS49 := hbk49 HP49.2 (fun k_ e_ => by injection e_ with e_; subst e_; exact ge49_0.1 _ rfl) (x' := y132) (Kd.M_row HP49.1)
                                                        rw [← Ny134.out] at HS49
                                                        have HQ49 := Aside0.mk HS49
                                                        clear HP49 HS49 hbk49 hok49
                                                        (first | simp only [add_plain] at hx129_0 | skip)
                                                        refine start_ (n := 18) (S := fun w' => w'.cell? ⟨go16, (x10_1).toNat, none⟩ = some (.slice (some ⟨go39, 0, none⟩) (rd_L1 x9_2 x10_1).length c128_0) ∧ w'.cell? ⟨go39, (x11_2).toNat, none⟩ = some (.int .i64 (rd (rd_L1 x9_2 x10_1) x11_2)) ∧ w'.cell? ⟨go16, (x10_1).toNat, none⟩ = some (.slice (some ⟨go39, 0, none⟩) (rd_L1 x9_2 x10_1).length c128_0) ∧ w'.cell? ⟨go39, ((ji36)).toNat, none⟩ = some (.int .i64 (rd (rd_L1 x9_2 x10_1) (ji36)))) (ds := [17]) #[false, false, false, false, false, false, false, false, false, false, false, false, false, false, false, false, false, false] (by kernel_rfl) rfl rfl ⟨hx128_0, hx129_0, hx130_0, hx131_0⟩ (fun hHeld => ?_); refine with_tabW spec_baRest.tab11 spec_baRest.bits11 (fun HT_ HW_ => ?_)
                                                        generalize wr.drew = w48 at HO_9 HB GG39 HL128_0 HL130_0 HQ49 HR128_0 HR130_0 HX128_0 HX130_0 hf39_0 hx128_0 hx129_0 hx130_0 hx131_0 hx39_0 hHeld ⊢
                                                        refine pure_ (i := 0) (N := some 45) (v := ?_) (a' := ?_) #[true, false, false, false, false, false, false, false, false, false, false, false, false, false, false, false, false, false] rfl rfl (any_of HT_.out (by kernel_rfl)) (fun _ _ _ h => h) (Or.inl ⟨by rfl, ?_⟩) ?_ ?_
                                                        rotate_left
                                                        · intro w'
                                                          go_simp
                                                          with_reducible rfl
                                                        rotate_left
                                                        · simp only [Act.put, List.setIfInBounds_toArray, List.set_cons_zero, List.set_cons_succ, i64_w, i32_w]
                                                          rfl
                                                        refine pure_ (i := 1) (N := some 46) (v := ?_) (a' := ?_) #[true, true, false, false, false, false, false, false, false, false, false, false, false, false, false, false, false, false] rfl rfl (any_of HT_.out (by kernel_rfl)) (fun _ _ _ h => h) (Or.inl ⟨by rfl, ?_⟩) ?_ ?_
                                                        rotate_left
                                                        · intro w'
                                                          go_simp
                                                          with_reducible rfl
                                                        rotate_left
                                                        · simp only [Act.put, List.setIfInBounds_toArray, List.set_cons_zero, List.set_cons_succ, i64_w, i32_w]
                                                          rfl
                                                        refine pure_ (i := 2) (N := some 47) (v := ?_) (a' := ?_) #[true, true, true, false, false, false, false, false, false, false, false, false, false, false, false, false, false, false] rfl rfl (any_of HT_.out (by kernel_rfl)) (fun _ _ _ h => h) (Or.inl ⟨by rfl, ?_⟩) ?_ ?_
                                                        rotate_left
                                                        · intro w'
                                                          go_simp
                                                          with_reducible rfl
                                                        rotate_left
                                                        · simp only [Act.put, List.setIfInBounds_toArray, List.set_cons_zero, List.set_cons_succ, i64_w, i32_w]
                                                          rfl
                                                        refine pure_ (i := 4) (N := some 49) (v := ?_) (a' := ?_) #[true, true, true, false, true, false, false, false, false, false, false, false, false, false, false, false, false, false] rfl rfl (any_of HT_.out (by kernel_rfl)) (fun _ _ _ h => h) (Or.inl ⟨by rfl, ?_⟩) ?_ ?_
                                                        rotate_left
                                                        · intro w'
                                                          go_simp
                                                          with_reducible rfl
                                                        rotate_left
                                                        · simp only [Act.put, List.setIfInBounds_toArray, List.set_cons_zero, List.set_cons_succ, i64_w, i32_w]
                                                          rfl
                                                        refine pure_ (i := 7) (N := some 52) (v := ?_) (a' := ?_) #[true, true, true, false, true, false, false, true, false, false, false, false, false, false, false, false, false, false] rfl rfl (any_of HT_.out (by kernel_rfl)) (fun _ _ _ h => h) (Or.inl ⟨by rfl, ?_⟩) ?_ ?_
                                                        rotate_left
                                                        · intro w'
                                                          go_simp
                                                          with_reducible rfl
                                                        rotate_left
                                                        · simp only [Act.put, List.setIfInBounds_toArray, List.set_cons_zero, List.set_cons_succ, i64_w, i32_w]
                                                          rfl
                                                        refine pure_ (i := 8) (N := some 53) (v := ?_) (a' := ?_) #[true, true, true, false, true, false, false, true, true, false, false, false, false, false, false, false, false, false] rfl rfl (any_of HT_.out (by kernel_rfl)) (fun _ _ _ h => h) (Or.inl ⟨by rfl, ?_⟩) ?_ ?_
                                                        rotate_left
                                                        · intro w'
                                                          go_simp
                                                          with_reducible rfl
                                                        rotate_left
                                                        · simp only [Act.put, List.setIfInBounds_toArray, List.set_cons_zero, List.set_cons_succ, i64_w, i32_w]
                                                          rfl
                                                        refine pure_ (i := 9) (N := some 54) (v := ?_) (a' := ?_) #[true, true, true, false, true, false, false, true, true, true, false, false, false, false, false, false, false, false] rfl rfl (any_of HT_.out (by kernel_rfl)) (fun _ _ _ h => h) (Or.inl ⟨by rfl, ?_⟩) ?_ ?_
                                                        rotate_left
                                                        · intro w'
                                                          go_simp
                                                          with_reducible rfl
                                                        rotate_left
                                                        · simp only [Act.put, List.setIfInBounds_toArray, List.set_cons_zero, List.set_cons_succ, i64_w, i32_w]
                                                          rfl
                                                        refine pure_ (i := 11) (N := some 56) (v := ?_) (a' := ?_) #[true, true, true, false, true, false, false, true, true, true, false, true, false, false, false, false, false, false] rfl rfl (any_of HT_.out (by kernel_rfl)) (fun _ _ _ h => h) (Or.inl ⟨by rfl, ?_⟩) ?_ ?_
                                                        rotate_left
                                                        · intro w'
                                                          go_simp
                                                          with_reducible rfl
                                                        rotate_left
                                                        · simp only [Act.put, List.setIfInBounds_toArray, List.set_cons_zero, List.set_cons_succ, i64_w, i32_w]
                                                          rfl
                                                        refine pure_ (i := 12) (N := some 57) (v := ?_) (a' := ?_) #[true, true, true, false, true, false, false, true, true, true, false, true, true, false, false, false, false, false] rfl rfl (any_of HT_.out (by kernel_rfl)) (fun _ _ _ h => h) (Or.inl ⟨by rfl, ?_⟩) ?_ ?_
                                                        rotate_left
                                                        · intro w'
                                                          go_simp
                                                          with_reducible rfl
                                                        rotate_left
                                                        · simp only [Act.put, List.setIfInBounds_toArray, List.set_cons_zero, List.set_cons_succ, i64_w, i32_w]
                                                          rfl
                                                        refine take_ (i := 3) (N := some 48) (v := ?_) (a' := ?_) #[true, true, true, true, true, false, false, true, true, true, false, true, true, false, false, false, false, false] rfl rfl (take_ofW HT_.out HW_.out (by kernel_rfl)) (fun _ _ _ h => h) (Or.inl ⟨by rfl, ?_⟩) hHeld ?_ ?_
                                                        rotate_left
                                                        · rintro w' ⟨s0, s1, s2, s3⟩
                                                          go_simp
                                                          with_reducible rfl
                                                        rotate_left
                                                        · simp only [Act.put, List.setIfInBounds_toArray, List.set_cons_zero, List.set_cons_succ, i64_w, i32_w]
                                                          rfl
                                                        refine pure_ (i := 5) (N := some 50) (v := ?_) (a' := ?_) #[true, true, true, true, true, true, false, true, true, true, false, true, true, false, false, false, false, false] rfl rfl (any_of HT_.out (by kernel_rfl)) (fun _ _ _ h => h) (Or.inl ⟨by rfl, ?_⟩) ?_ ?_
                                                        rotate_left
                                                        · intro w'
                                                          go_simp
                                                          with_reducible rfl
                                                        rotate_left
                                                        · simp only [Act.put, List.setIfInBounds_toArray, List.set_cons_zero, List.set_cons_succ, i64_w, i32_w]
                                                          rfl
                                                        refine take_ (i := 6) (N := some 51) (v := ?_) (a' := ?_) #[true, true, true, true, true, true, true, true, true, true, false, true, true, false, false, false, false, false] rfl rfl (take_ofW HT_.out HW_.out (by kernel_rfl)) (fun _ _ _ h => h) (Or.inl ⟨by rfl, ?_⟩) hHeld ?_ ?_
                                                        rotate_left
                                                        · rintro w' ⟨s0, s1, s2, s3⟩
                                                          go_simp
                                                          with_reducible rfl
                                                        rotate_left
                                                        · simp only [Act.put, List.setIfInBounds_toArray, List.set_cons_zero, List.set_cons_succ, i64_w, i32_w]
                                                          rfl
                                                        refine take_ (i := 10) (N := some 55) (v := ?_) (a' := ?_) #[true, true, true, true, true, true, true, true, true, true, true, true, true, false, false, false, false, false] rfl rfl (take_ofW HT_.out HW_.out (by kernel_rfl)) (fun _ _ _ h => h) (Or.inl ⟨by rfl, ?_⟩) hHeld ?_ ?_
                                                        rotate_left
                                                        · rintro w' ⟨s0, s1, s2, s3⟩
                                                          go_simp
                                                          with_reducible rfl
                                                        rotate_left
                                                        · simp only [Act.put, List.setIfInBounds_toArray, List.set_cons_zero, List.set_cons_succ, i64_w, i32_w]
                                                          rfl
                                                        refine pure_ (i := 13) (N := some 58) (v := ?_) (a' := ?_) #[true, true, true, true, true, true, true, true, true, true, true, true, true, true, false, false, false, false] rfl rfl (any_of HT_.out (by kernel_rfl)) (fun _ _ _ h => h) (Or.inl ⟨by rfl, ?_⟩) ?_ ?_
                                                        rotate_left
                                                        · intro w'
                                                          go_simp
                                                          with_reducible rfl
                                                        rotate_left
                                                        · simp only [Act.put, List.setIfInBounds_toArray, List.set_cons_zero, List.set_cons_succ, i64_w, i32_w]
                                                          rfl
                                                        refine take_ (i := 14) (N := some 59) (v := ?_) (a' := ?_) #[true, true, true, true, true, true, true, true, true, true, true, true, true, true, true, false, false, false] rfl rfl (take_ofW HT_.out HW_.out (by kernel_rfl)) (fun _ _ _ h => h) (Or.inl ⟨by rfl, ?_⟩) hHeld ?_ ?_
                                                        rotate_left
                                                        · rintro w' ⟨s0, s1, s2, s3⟩
                                                          go_simp
                                                          with_reducible rfl
                                                        rotate_left
                                                        · simp only [Act.put, List.setIfInBounds_toArray, List.set_cons_zero, List.set_cons_succ, i64_w, i32_w]
                                                          rfl
                                                        refine pure_ (i := 15) (N := some 60) (v := ?_) (a' := ?_) #[true, true, true, true, true, true, true, true, true, true, true, true, true, true, true, true, false, false] rfl rfl (any_of HT_.out (by kernel_rfl)) (fun _ _ _ h => h) (Or.inl ⟨by rfl, ?_⟩) ?_ ?_
                                                        rotate_left
                                                        · intro w'
                                                          go_simp
                                                          with_reducible rfl
                                                        rotate_left
                                                        · simp only [Act.put, List.setIfInBounds_toArray, List.set_cons_zero, List.set_cons_succ, i64_w, i32_w]
                                                          rfl
                                                        refine pure_ (i := 16) (N := some 61) (v := ?_) (a' := ?_) #[true, true, true, true, true, true, true, true, true, true, true, true, true, true, true, true, true, false] rfl rfl (any_of HT_.out (by kernel_rfl)) (fun _ _ _ h => h) (Or.inl ⟨by rfl, ?_⟩) ?_ ?_
                                                        rotate_left
                                                        · intro w'
                                                          go_simp
                                                          with_reducible rfl
                                                        rotate_left
                                                        · simp only [Act.put, List.setIfInBounds_toArray, List.set_cons_zero, List.set_cons_succ, i64_w, i32_w]
                                                          rfl
                                                        refine last_ (i := 17) (N := none) #[true, true, true, true, true, true, true, true, true, true, true, true, true, true, true, true, true, true] rfl rfl (one_of HT_.out (by kernel_rfl)) (by decide) (fun K hK => ?_)
                                                        refine skip_ (w1 := ?_) (by rfl) rfl ?_ ?_
                                                        rotate_left
                                                        · go_simp
                                                          rfl
                                                        refine hK.out _ _ ?_
                                                        clear hK K
                                                        refine done_ (done_of HT_.out (by kernel_rfl)) ?_
                                                        try go_wp2
                                                        have n0_ : Aside0 (Kd.S (Kd.slice 3 (Kd.int .i64)) 28 (w48.setCell ⟨go39, (x11_2 : Int).toNat, none⟩ (.int .i64 (wrap64 ((rd (rd_L1 x9_2 x10_1) x11_2) + (rd (rd_L1 x9_2 x10_1) (ji36)))))) w.heap.size (fun _ => True) (.slice (some ⟨go16, 0, none⟩) x9_2.length co16) y134) := ⟨by (with_reducible repeat (first | apply Kd.S_alloc | apply Kd.S_drewN | apply Kd.S_drew)); exact HQ49.out⟩
                                                        have n1_ : Aside0 (Below w.heap.size w (w48.setCell ⟨go39, (x11_2 : Int).toNat, none⟩ (.int .i64 (wrap64 ((rd (rd_L1 x9_2 x10_1) x11_2) + (rd (rd_L1 x9_2 x10_1) (ji36))))))) := ⟨by repeat (first | (with_reducible first | exact HB.out | apply below_alloc | apply pw_below_drewN | apply below_drew1 | refine below_set ?_ GB39.out) | exact HB.out)⟩
                                                        (try clear HO_9)
                                                        (try clear HB)
                                                        generalize (w48.setCell ⟨go39, (x11_2 : Int).toNat, none⟩ (.int .i64 (wrap64 ((rd (rd_L1 x9_2 x10_1) x11_2) + (rd (rd_L1 x9_2 x10_1) (ji36)))))) = w51 at n0_ n1_ ⊢
                                                        have HO_9 := n0_
                                                        have HB := n1_
                                                        clear n0_ n1_
                                                        have n0_ := Aside0.mk (Kd.S_drew HO_9.out)
                                                        have n1_ := Aside0.mk (below_drew1 HB.out)
                                                        clear HO_9
                                                        clear HB
                                                        have HO_9 := n0_
                                                        have HB := n1_
                                                        clear n0_ n1_
                                                        have p135 : 0 ≤ (x10_1 : Int) := of_decide_eq_true (by first | (with_reducible assumption) | assumption)
                                                        have q135 : x10_1 < (y134.length : Int) := (by have h_ : (x10_1 : Int) < ((x9_2.length : Int) : Int) := of_decide_eq_true (by first | (with_reducible assumption) | assumption); first | (have e_ := (Kd.S_reads' HO_9.out).1; omega) | simpa only [Ny134.out, List.length_set] using h_)
                                                        have ql135 : ((x10_1 : Int) < ((x9_2.length : Int) : Int)) = True := eq_true (of_decide_eq_true (by first | (with_reducible assumption) | assumption))
                                                        obtain ⟨ad135, A135_0, c135_0, e135, hx135_0, hl135_0, hi135_0⟩ := at_L1 (Kd.S_reads' HO_9.out).2.2 x10_1 p135 q135
                                                        obtain rfl : (⟨go16, 0, none⟩ : Addr) = ad135 := (by injection e135)
                                                        obtain ⟨ce135, hce135, hMe135, hcc135⟩ := Kd.S_get HO_9.out [] x10_1 p135 (by first | exact q135 | exact of_decide_eq_true (by first | (with_reducible assumption) | assumption) | (have e_ := (Kd.S_reads' HO_9.out).1; omega))
                                                        obtain ⟨ve135_0, rfl, ge135_0⟩ := hMe135
                                                        have hv135_0 := hcc135 0 _ rfl
                                                        rw [Nat.add_zero, show ((Kd.slice 3 (Kd.int .i64))).sz = 1 from rfl, Nat.mul_one] at hv135_0
                                                        replace hv135_0 := Option.some.inj (hv135_0.symm.trans hx135_0)
                                                        rw [hv135_0] at ge135_0
                                                        have HL135_0 := Aside0.mk (show Kd.R (Kd.int .i64) 3 _ _ _ _ (rd_L1 y134 x10_1) from ge135_0)
                                                        clear hv135_0 ge135_0
                                                        have HX135_0 := Aside0.mk hx135_0
                                                        clear hcc135 hce135
                                                        (first | simp only [add_plain] at hx135_0 | simp only [add_at] at hx135_0 | simp only [Addr.add, Nat.zero_add] at hx135_0 | skip)
                                                        have HR135_0 := Aside0.mk hi135_0
                                                        have HC135_0 := Aside0.mk hl135_0
                                                        clear hi135_0 hl135_0
                                                        replace p135 := eq_true p135
                                                        replace q135 := eq_true q135
                                                        have p136 : 0 ≤ (x11_2 : Int) := of_decide_eq_true (by first | (with_reducible assumption) | assumption)
                                                        have q136 : x11_2 < ((rd_L1 y134 x10_1).length : Int) := of_decide_eq_true (by first | (with_reducible assumption) | assumption)
                                                        obtain ⟨ad136, e136, hx136_0⟩ := Kd.at_int (by repeat (first | (with_reducible exact HR135_0.out) | (with_reducible refine Kd.C_alloc ?_ _) | (with_reducible refine Kd.C_drewN ?_ _) | (with_reducible refine Kd.C_drew ?_) | exact HR135_0.out)) x11_2 p136 q136
                                                        cases e136
                                                        replace p136 := eq_true p136
                                                        replace q136 := eq_true q136
                                                        have p137 : 0 ≤ ((ji43) : Int) := of_decide_eq_true (by first | (with_reducible assumption) | assumption)
                                                        have q137 : (ji43) < (y134.length : Int) := (by have h_ : ((ji43) : Int) < ((x9_2.length : Int) : Int) := of_decide_eq_true (by first | (with_reducible assumption) | assumption); first | (have e_ := (Kd.S_reads' HO_9.out).1; omega) | simpa only [Ny134.out, List.length_set] using h_)
                                                        have ql137 : (((ji43) : Int) < ((x9_2.length : Int) : Int)) = True := eq_true (of_decide_eq_true (by first | (with_reducible assumption) | assumption))
                                                        obtain ⟨ad137, A137_0, c137_0, e137, hx137_0, hl137_0, hi137_0⟩ := at_L1 (Kd.S_reads' HO_9.out).2.2 (ji43) p137 q137
                                                        obtain rfl : (⟨go16, 0, none⟩ : Addr) = ad137 := (by injection e137)
                                                        obtain ⟨ce137, hce137, hMe137, hcc137⟩ := Kd.S_get HO_9.out [] (ji43) p137 (by first | exact q137 | exact of_decide_eq_true (by first | (with_reducible assumption) | assumption) | (have e_ := (Kd.S_reads' HO_9.out).1; omega))
                                                        obtain ⟨ve137_0, rfl, ge137_0⟩ := hMe137
                                                        have hv137_0 := hcc137 0 _ rfl
                                                        rw [Nat.add_zero, show ((Kd.slice 3 (Kd.int .i64))).sz = 1 from rfl, Nat.mul_one] at hv137_0
                                                        replace hv137_0 := Option.some.inj (hv137_0.symm.trans hx137_0)
                                                        rw [hv137_0] at ge137_0
                                                        have HL137_0 := Aside0.mk (show Kd.R (Kd.int .i64) 3 _ _ _ _ (rd_L1 y134 (ji43)) from ge137_0)
                                                        clear hv137_0 ge137_0
                                                        have HX137_0 := Aside0.mk hx137_0
                                                        clear hcc137 hce137
                                                        (first | simp only [add_plain] at hx137_0 | simp only [add_at] at hx137_0 | simp only [Addr.add, Nat.zero_add] at hx137_0 | skip)
                                                        have HR137_0 := Aside0.mk hi137_0
                                                        have HC137_0 := Aside0.mk hl137_0
                                                        clear hi137_0 hl137_0
                                                        replace p137 := eq_true p137
                                                        replace q137 := eq_true q137
                                                        have p138 : 0 ≤ (x11_2 : Int) := of_decide_eq_true (by first | (with_reducible assumption) | assumption)
                                                        have q138 : x11_2 < ((rd_L1 y134 (ji43)).length : Int) := of_decide_eq_true (by first | (with_reducible assumption) | assumption)
                                                        obtain ⟨ad138, e138, hx138_0⟩ := Kd.at_int (by repeat (first | (with_reducible exact HR137_0.out) | (with_reducible refine Kd.C_alloc ?_ _) | (with_reducible refine Kd.C_drewN ?_ _) | (with_reducible refine Kd.C_drew ?_) | exact HR137_0.out)) x11_2 p138 q138
                                                        cases e138
                                                        replace p138 := eq_true p138
                                                        replace q138 := eq_true q138
                                                        have p47 : 0 ≤ (x11_2 : Int) := of_decide_eq_true (by first | (with_reducible assumption) | assumption)
                                                        have q47 : (x11_2 : Int) < (((rd_L1 y134 x10_1).length : Int) : Int) := of_decide_eq_true (by first | (with_reducible assumption) | assumption)
                                                        obtain ⟨go47, co47, eo47, gb47, gl47, cl47, HG47⟩ := Kd.R_form HL135_0.out (by omega)
                                                        (first | cases eo47 | (injection eo47 with ea_ en_ ec_; (first | subst ea_ | (injection ea_ with ea_; subst ea_)); subst ec_; clear en_))
                                                        have GB47 := Aside0.mk gb47
                                                        have GG47 := Aside0.mk HG47
                                                        clear gb47 gl47 HG47
                                                        (first | simp only [add_plain] at hx136_0 | skip)
                                                        obtain ⟨hx47_0, hf47_0⟩ := Kd.R_celln 0 HL135_0.out (x11_2 : Int) p47 q47
                                                        replace p47 := eq_true p47
                                                        replace q47 := eq_true q47
                                                        have hq53 : (x10_1 : Int) < (y134.length : Int) := (by have h_ : (x10_1 : Int) < ((x9_2.length : Int) : Int) := of_decide_eq_true (by first | (with_reducible assumption) | assumption); first | exact h_ | (have e_ := (Kd.S_reads' HO_9.out).1; omega) | simpa only [Ny134.out, List.length_set] using h_)
                                                        obtain ⟨oki53, ce53, hcl53, hM53, hcc53, hok53, hbk53⟩ := Kd.S_borrow HO_9.out [] (x10_1 : Int) (of_decide_eq_true (by first | (with_reducible assumption) | assumption)) (by first | exact hq53 | (have e_ := (Kd.S_reads' HO_9.out).1; omega))
                                                        obtain ⟨ve53_0, rfl, ge53_0⟩ := hM53
                                                        have hv53 := hcc53 0 _ rfl
                                                        rw [Nat.add_zero, show ((Kd.slice 3 (Kd.int .i64))).sz = 1 from rfl, Nat.mul_one] at hv53
                                                        replace hv53 := Option.some.inj (hv53.symm.trans HX135_0.out)
                                                        subst hv53
                                                        clear hcc53 hcl53
                                                        replace ge53_0 := (show Kd.R (Kd.int .i64) 3 _ _ _ _ (rd_L1 y134 x10_1) from ge53_0)
                                                        have HP53 := Kd.R_putg ge53_0 (x11_2 : Int) (wrap64 ((rd (rd_L1 y134 x10_1) x11_2) + (rd (rd_L1 y134 (ji43)) x11_2)))
                                                        rw [← Ny139.out] at HP53
                                                        have HS53 := hbk53 HP53.2 (fun k_ e_ => by injection e_ with e_; subst e_; exact ge53_0.1 _ rfl) (x' := y139) (Kd.M_row HP53.1)
                                                        rw [← Ny141.out] at HS53
                                                        have HQ53 := Aside0.mk HS53
                                                        clear HP53 HS53 hbk53 hok53
                                                        refine start_ (n := 18) (S := fun w' => w'.cell? ⟨go16, (x10_1).toNat, none⟩ = some (.slice (some ⟨go47, 0, none⟩) (rd_L1 y134 x10_1).length c135_0) ∧ w'.cell? ⟨go47, (x11_2).toNat, none⟩ = some (.int .i64 (rd (rd_L1 y134 x10_1) x11_2)) ∧ w'.cell? ⟨go16, ((ji43)).toNat, none⟩ = some (.slice (some ad138) (rd_L1 y134 (ji43)).length c137_0) ∧ w'.cell? (ad138.add (x11_2).toNat) = some (.int .i64 (rd (rd_L1 y134 (ji43)) x11_2))) (ds := [17]) #[false, false, false, false, false, false, false, false, false, false, false, false, false, false, false, false, false, false] (by kernel_rfl) rfl rfl ⟨hx135_0, hx136_0, hx137_0, hx138_0⟩ (fun hHeld => ?_); refine with_tabW spec_baRest.tab13 spec_baRest.bits13 (fun HT_ HW_ => ?_)
                                                        generalize w51.drew = w52 at HO_9 HB GG47 HL135_0 HL137_0 HQ49 HQ53 HR135_0 HR137_0 HX135_0 HX137_0 hf47_0 hx135_0 hx136_0 hx137_0 hx138_0 hx47_0 hHeld ⊢
                                                        refine pure_ (i := 0) (N := some 70) (v := ?_) (a' := ?_) #[true, false, false, false, false, false, false, false, false, false, false, false, false, false, false, false, false, false] rfl rfl (any_of HT_.out (by kernel_rfl)) (fun _ _ _ h => h) (Or.inl ⟨by rfl, ?_⟩) ?_ ?_
                                                        rotate_left
                                                        · intro w'
                                                          go_simp
                                                          with_reducible rfl
                                                        rotate_left
                                                        · simp only [Act.put, List.setIfInBounds_toArray, List.set_cons_zero, List.set_cons_succ, i64_w, i32_w]
                                                          rfl
                                                        refine pure_ (i := 1) (N := some 71) (v := ?_) (a' := ?_) #[true, true, false, false, false, false, false, false, false, false, false, false, false, false, false, false, false, false] rfl rfl (any_of HT_.out (by kernel_rfl)) (fun _ _ _ h => h) (Or.inl ⟨by rfl, ?_⟩) ?_ ?_
                                                        rotate_left
                                                        · intro w'
                                                          go_simp
                                                          with_reducible rfl
                                                        rotate_left
                                                        · simp only [Act.put, List.setIfInBounds_toArray, List.set_cons_zero, List.set_cons_succ, i64_w, i32_w]
                                                          rfl
                                                        refine pure_ (i := 2) (N := some 72) (v := ?_) (a' := ?_) #[true, true, true, false, false, false, false, false, false, false, false, false, false, false, false, false, false, false] rfl rfl (any_of HT_.out (by kernel_rfl)) (fun _ _ _ h => h) (Or.inl ⟨by rfl, ?_⟩) ?_ ?_
                                                        rotate_left
                                                        · intro w'
                                                          go_simp
                                                          with_reducible rfl
                                                        rotate_left
                                                        · simp only [Act.put, List.setIfInBounds_toArray, List.set_cons_zero, List.set_cons_succ, i64_w, i32_w]
                                                          rfl
                                                        refine pure_ (i := 4) (N := some 74) (v := ?_) (a' := ?_) #[true, true, true, false, true, false, false, false, false, false, false, false, false, false, false, false, false, false] rfl rfl (any_of HT_.out (by kernel_rfl)) (fun _ _ _ h => h) (Or.inl ⟨by rfl, ?_⟩) ?_ ?_
                                                        rotate_left
                                                        · intro w'
                                                          go_simp
                                                          with_reducible rfl
                                                        rotate_left
                                                        · simp only [Act.put, List.setIfInBounds_toArray, List.set_cons_zero, List.set_cons_succ, i64_w, i32_w]
                                                          rfl
                                                        refine pure_ (i := 7) (N := some 77) (v := ?_) (a' := ?_) #[true, true, true, false, true, false, false, true, false, false, false, false, false, false, false, false, false, false] rfl rfl (any_of HT_.out (by kernel_rfl)) (fun _ _ _ h => h) (Or.inl ⟨by rfl, ?_⟩) ?_ ?_
                                                        rotate_left
                                                        · intro w'
                                                          go_simp
                                                          with_reducible rfl
                                                        rotate_left
                                                        · simp only [Act.put, List.setIfInBounds_toArray, List.set_cons_zero, List.set_cons_succ, i64_w, i32_w]
                                                          rfl
                                                        refine pure_ (i := 8) (N := some 78) (v := ?_) (a' := ?_) #[true, true, true, false, true, false, false, true, true, false, false, false, false, false, false, false, false, false] rfl rfl (any_of HT_.out (by kernel_rfl)) (fun _ _ _ h => h) (Or.inl ⟨by rfl, ?_⟩) ?_ ?_
                                                        rotate_left
                                                        · intro w'
                                                          go_simp
                                                          with_reducible rfl
                                                        rotate_left
                                                        · simp only [Act.put, List.setIfInBounds_toArray, List.set_cons_zero, List.set_cons_succ, i64_w, i32_w]
                                                          rfl
                                                        refine pure_ (i := 9) (N := some 79) (v := ?_) (a' := ?_) #[true, true, true, false, true, false, false, true, true, true, false, false, false, false, false, false, false, false] rfl rfl (any_of HT_.out (by kernel_rfl)) (fun _ _ _ h => h) (Or.inl ⟨by rfl, ?_⟩) ?_ ?_
                                                        rotate_left
                                                        · intro w'
                                                          go_simp
                                                          with_reducible rfl
                                                        rotate_left
                                                        · simp only [Act.put, List.setIfInBounds_toArray, List.set_cons_zero, List.set_cons_succ, i64_w, i32_w]
                                                          rfl
                                                        refine pure_ (i := 10) (N := some 80) (v := ?_) (a' := ?_) #[true, true, true, false, true, false, false, true, true, true, true, false, false, false, false, false, false, false] rfl rfl (any_of HT_.out (by kernel_rfl)) (fun _ _ _ h => h) (Or.inl ⟨by rfl, ?_⟩) ?_ ?_
                                                        rotate_left
                                                        · intro w'
                                                          go_simp
                                                          with_reducible rfl
                                                        rotate_left
                                                        · simp only [Act.put, List.setIfInBounds_toArray, List.set_cons_zero, List.set_cons_succ, i64_w, i32_w]
                                                          rfl
                                                        refine pure_ (i := 12) (N := some 82) (v := ?_) (a' := ?_) #[true, true, true, false, true, false, false, true, true, true, true, false, true, false, false, false, false, false] rfl rfl (any_of HT_.out (by kernel_rfl)) (fun _ _ _ h => h) (Or.inl ⟨by rfl, ?_⟩) ?_ ?_
                                                        rotate_left
                                                        · intro w'
                                                          go_simp
                                                          with_reducible rfl
                                                        rotate_left
                                                        · simp only [Act.put, List.setIfInBounds_toArray, List.set_cons_zero, List.set_cons_succ, i64_w, i32_w]
                                                          rfl
                                                        refine take_ (i := 3) (N := some 73) (v := ?_) (a' := ?_) #[true, true, true, true, true, false, false, true, true, true, true, false, true, false, false, false, false, false] rfl rfl (take_ofW HT_.out HW_.out (by kernel_rfl)) (fun _ _ _ h => h) (Or.inl ⟨by rfl, ?_⟩) hHeld ?_ ?_
                                                        rotate_left
                                                        · rintro w' ⟨s0, s1, s2, s3⟩
                                                          go_simp
                                                          with_reducible rfl
                                                        rotate_left
                                                        · simp only [Act.put, List.setIfInBounds_toArray, List.set_cons_zero, List.set_cons_succ, i64_w, i32_w]
                                                          rfl
                                                        refine pure_ (i := 5) (N := some 75) (v := ?_) (a' := ?_) #[true, true, true, true, true, true, false, true, true, true, true, false, true, false, false, false, false, false] rfl rfl (any_of HT_.out (by kernel_rfl)) (fun _ _ _ h => h) (Or.inl ⟨by rfl, ?_⟩) ?_ ?_
                                                        rotate_left
                                                        · intro w'
                                                          go_simp
                                                          with_reducible rfl
                                                        rotate_left
                                                        · simp only [Act.put, List.setIfInBounds_toArray, List.set_cons_zero, List.set_cons_succ, i64_w, i32_w]
                                                          rfl
                                                        refine take_ (i := 6) (N := some 76) (v := ?_) (a' := ?_) #[true, true, true, true, true, true, true, true, true, true, true, false, true, false, false, false, false, false] rfl rfl (take_ofW HT_.out HW_.out (by kernel_rfl)) (fun _ _ _ h => h) (Or.inl ⟨by rfl, ?_⟩) hHeld ?_ ?_
                                                        rotate_left
                                                        · rintro w' ⟨s0, s1, s2, s3⟩
                                                          go_simp
                                                          with_reducible rfl
                                                        rotate_left
                                                        · simp only [Act.put, List.setIfInBounds_toArray, List.set_cons_zero, List.set_cons_succ, i64_w, i32_w]
                                                          rfl
                                                        refine take_ (i := 11) (N := some 81) (v := ?_) (a' := ?_) #[true, true, true, true, true, true, true, true, true, true, true, true, true, false, false, false, false, false] rfl rfl (take_ofW HT_.out HW_.out (by kernel_rfl)) (fun _ _ _ h => h) (Or.inl ⟨by rfl, ?_⟩) hHeld ?_ ?_
                                                        rotate_left
                                                        · rintro w' ⟨s0, s1, s2, s3⟩
                                                          go_simp
                                                          with_reducible rfl
                                                        rotate_left
                                                        · simp only [Act.put, List.setIfInBounds_toArray, List.set_cons_zero, List.set_cons_succ, i64_w, i32_w]
                                                          rfl
                                                        refine pure_ (i := 13) (N := some 83) (v := ?_) (a' := ?_) #[true, true, true, true, true, true, true, true, true, true, true, true, true, true, false, false, false, false] rfl rfl (any_of HT_.out (by kernel_rfl)) (fun _ _ _ h => h) (Or.inl ⟨by rfl, ?_⟩) ?_ ?_
                                                        rotate_left
                                                        · intro w'
                                                          go_simp
                                                          with_reducible rfl
                                                        rotate_left
                                                        · simp only [Act.put, List.setIfInBounds_toArray, List.set_cons_zero, List.set_cons_succ, i64_w, i32_w]
                                                          rfl
                                                        refine take_ (i := 14) (N := some 84) (v := ?_) (a' := ?_) #[true, true, true, true, true, true, true, true, true, true, true, true, true, true, true, false, false, false] rfl rfl (take_ofW HT_.out HW_.out (by kernel_rfl)) (fun _ _ _ h => h) (Or.inl ⟨by rfl, ?_⟩) hHeld ?_ ?_
                                                        rotate_left
                                                        · rintro w' ⟨s0, s1, s2, s3⟩
                                                          go_simp
                                                          with_reducible rfl
                                                        rotate_left
                                                        · simp only [Act.put, List.setIfInBounds_toArray, List.set_cons_zero, List.set_cons_succ, i64_w, i32_w]
                                                          rfl
                                                        refine pure_ (i := 15) (N := some 85) (v := ?_) (a' := ?_) #[true, true, true, true, true, true, true, true, true, true, true, true, true, true, true, true, false, false] rfl rfl (any_of HT_.out (by kernel_rfl)) (fun _ _ _ h => h) (Or.inl ⟨by rfl, ?_⟩) ?_ ?_
                                                        rotate_left
                                                        · intro w'
                                                          go_simp
                                                          with_reducible rfl
                                                        rotate_left
                                                        · simp only [Act.put, List.setIfInBounds_toArray, List.set_cons_zero, List.set_cons_succ, i64_w, i32_w]
                                                          rfl
                                                        refine pure_ (i := 16) (N := some 86) (v := ?_) (a' := ?_) #[true, true, true, true, true, true, true, true, true, true, true, true, true, true, true, true, true, false] rfl rfl (any_of HT_.out (by kernel_rfl)) (fun _ _ _ h => h) (Or.inl ⟨by rfl, ?_⟩) ?_ ?_
                                                        rotate_left
                                                        · intro w'
                                                          go_simp
                                                          with_reducible rfl
                                                        rotate_left
                                                        · simp only [Act.put, List.setIfInBounds_toArray, List.set_cons_zero, List.set_cons_succ, i64_w, i32_w]
                                                          rfl
                                                        refine last_ (i := 17) (N := none) #[true, true, true, true, true, true, true, true, true, true, true, true, true, true, true, true, true, true] rfl rfl (one_of HT_.out (by kernel_rfl)) (by decide) (fun K hK => ?_)
                                                        refine skip_ (w1 := ?_) (by rfl) rfl ?_ ?_
                                                        rotate_left
                                                        · go_simp
                                                          rfl
                                                        refine hK.out _ _ ?_
                                                        clear hK K
                                                        refine done_ (done_of HT_.out (by kernel_rfl)) ?_
                                                        try go_wp2
                                                        (try simp only [← hl9_2])
                                                        go_roundg k2
                                                        case measure => have := HK1.out; have := HK2.out; omega
                                                        case rel => exact ⟨(y141), (wrap64 (x11_2 + 1)), (by first | rfl | (simp; done) | (simp [*]; done)), H', ⟨by have := HK1.out; have := HK2.out; omega⟩, ⟨by (try simp only [hl9_2]); (with_reducible repeat (first | apply Kd.S_alloc | apply Kd.S_drewN | apply Kd.S_drew)); exact HQ53.out⟩, ⟨by repeat (first | (with_reducible first | exact HB.out | apply below_alloc | apply pw_below_drewN | apply below_drew1 | refine below_set ?_ GB47.out) | exact HB.out)⟩⟩
                                                      · rw [if_neg c46] at H
                                                        exact absurd H (by simp)
                                                    · rw [if_neg c45] at H
                                                      exact absurd H (by simp)
                                                  · rw [if_neg c44] at H
                                                    exact absurd H (by simp)
                                                · rw [if_neg c42] at H
                                                  exact absurd H (by simp)
                                              · rw [if_neg c41] at H
                                                have c41b0 : decide (0 ≤ (wrap64 ((wrap64 ((wrap64 (a3 + (wrap64 (a0 - x11_2)))) - (wrap64 (a2 * (wrap64 (a1 - x10_1)))))) - a2))) = false := decide_eq_false c41
                                                clear c41
                                                have H' := Aside0.mk H
                                                clear H
                                                try go_wp2
                                                have n0_ := Aside0.mk (Kd.S_drew HO_9.out)
                                                have n1_ := Aside0.mk (below_drew1 HB.out)
                                                clear HO_9
                                                clear HB
                                                have HO_9 := n0_
                                                have HB := n1_
                                                clear n0_ n1_
                                                have p128 : 0 ≤ (x10_1 : Int) := of_decide_eq_true (by first | (with_reducible assumption) | assumption)
                                                have q128 : x10_1 < (x9_2.length : Int) := of_decide_eq_true (by first | (with_reducible assumption) | assumption)
                                                obtain ⟨ad128, A128_0, c128_0, e128, hx128_0, hl128_0, hi128_0⟩ := at_L1 (Kd.S_reads' HO_9.out).2.2 x10_1 p128 q128
                                                obtain rfl : (⟨go16, 0, none⟩ : Addr) = ad128 := (by injection e128)
                                                obtain ⟨ce128, hce128, hMe128, hcc128⟩ := Kd.S_get HO_9.out [] x10_1 p128 (by first | exact q128 | exact of_decide_eq_true (by first | (with_reducible assumption) | assumption) | (have e_ := (Kd.S_reads' HO_9.out).1; omega))
                                                obtain ⟨ve128_0, rfl, ge128_0⟩ := hMe128
                                                have hv128_0 := hcc128 0 _ rfl
                                                rw [Nat.add_zero, show ((Kd.slice 3 (Kd.int .i64))).sz = 1 from rfl, Nat.mul_one] at hv128_0
                                                replace hv128_0 := Option.some.inj (hv128_0.symm.trans hx128_0)
                                                rw [hv128_0] at ge128_0
                                                have HL128_0 := Aside0.mk (show Kd.R (Kd.int .i64) 3 _ _ _ _ (rd_L1 x9_2 x10_1) from ge128_0)
                                                clear hv128_0 ge128_0
                                                have HX128_0 := Aside0.mk hx128_0
                                                clear hcc128 hce128
                                                (first | simp only [add_plain] at hx128_0 | simp only [add_at] at hx128_0 | simp only [Addr.add, Nat.zero_add] at hx128_0 | skip)
                                                have HR128_0 := Aside0.mk hi128_0
                                                have HC128_0 := Aside0.mk hl128_0
                                                clear hi128_0 hl128_0
                                                replace p128 := eq_true p128
                                                replace q128 := eq_true q128
                                                have p129 : 0 ≤ (x11_2 : Int) := of_decide_eq_true (by first | (with_reducible assumption) | assumption)
                                                have q129 : x11_2 < ((rd_L1 x9_2 x10_1).length : Int) := of_decide_eq_true (by first | (with_reducible assumption) | assumption)
                                                obtain ⟨ad129, e129, hx129_0⟩ := Kd.at_int (by repeat (first | (with_reducible exact HR128_0.out) | (with_reducible refine Kd.C_alloc ?_ _) | (with_reducible refine Kd.C_drewN ?_ _) | (with_reducible refine Kd.C_drew ?_) | exact HR128_0.out)) x11_2 p129 q129
                                                cases e129
                                                replace p129 := eq_true p129
                                                replace q129 := eq_true q129
                                                have p130 : 0 ≤ (x10_1 : Int) := of_decide_eq_true (by first | (with_reducible assumption) | assumption)
                                                have q130 : x10_1 < (x9_2.length : Int) := of_decide_eq_true (by first | (with_reducible assumption) | assumption)
                                                obtain ⟨ad130, A130_0, c130_0, e130, hx130_0, hl130_0, hi130_0⟩ := at_L1 (Kd.S_reads' HO_9.out).2.2 x10_1 p130 q130
                                                obtain rfl : (⟨go16, 0, none⟩ : Addr) = ad130 := (by injection e130)
                                                obtain ⟨ce130, hce130, hMe130, hcc130⟩ := Kd.S_get HO_9.out [] x10_1 p130 (by first | exact q130 | exact of_decide_eq_true (by first | (with_reducible assumption) | assumption) | (have e_ := (Kd.S_reads' HO_9.out).1; omega))
                                                obtain ⟨ve130_0, rfl, ge130_0⟩ := hMe130
                                                have hv130_0 := hcc130 0 _ rfl
                                                rw [Nat.add_zero, show ((Kd.slice 3 (Kd.int .i64))).sz = 1 from rfl, Nat.mul_one] at hv130_0
                                                replace hv130_0 := Option.some.inj (hv130_0.symm.trans hx130_0)
                                                rw [hv130_0] at ge130_0
                                                have HL130_0 := Aside0.mk (show Kd.R (Kd.int .i64) 3 _ _ _ _ (rd_L1 x9_2 x10_1) from ge130_0)
                                                clear hv130_0 ge130_0
                                                have HX130_0 := Aside0.mk hx130_0
                                                clear hcc130 hce130
                                                (first | simp only [add_plain] at hx130_0 | simp only [add_at] at hx130_0 | simp only [Addr.add, Nat.zero_add] at hx130_0 | skip)
                                                have HR130_0 := Aside0.mk hi130_0
                                                have HC130_0 := Aside0.mk hl130_0
                                                clear hi130_0 hl130_0
                                                replace p130 := eq_true p130
                                                replace q130 := eq_true q130
                                                have ea_ := Option.some.inj (hx128_0.symm.trans hx130_0)
                                                injection ea_ with ea_ en_ ec_
                                                subst ea_
                                                subst ec_
                                                clear en_
                                                have p131 : 0 ≤ ((ji36) : Int) := of_decide_eq_true (by first | (with_reducible assumption) | assumption)
                                                have q131 : (ji36) < ((rd_L1 x9_2 x10_1).length : Int) := of_decide_eq_true (by first | (with_reducible assumption) | assumption)
                                                obtain ⟨ad131, e131, hx131_0⟩ := Kd.at_int (by repeat (first | (with_reducible exact HR130_0.out) | (with_reducible refine Kd.C_alloc ?_ _) | (with_reducible refine Kd.C_drewN ?_ _) | (with_reducible refine Kd.C_drew ?_) | exact HR130_0.out)) (ji36) p131 q131
                                                cases e131
                                                replace p131 := eq_true p131
                                                replace q131 := eq_true q131
                                                have p39 : 0 ≤ (x11_2 : Int) := of_decide_eq_true (by first | (with_reducible assumption) | assumption)
                                                have q39 : (x11_2 : Int) < (((rd_L1 x9_2 x10_1).length : Int) : Int) := of_decide_eq_true (by first | (with_reducible assumption) | assumption)
                                                obtain ⟨go39, co39, eo39, gb39, gl39, cl39, HG39⟩ := Kd.R_form HL128_0.out (by omega)
                                                (first | cases eo39 | (injection eo39 with ea_ en_ ec_; (first | subst ea_ | (injection ea_ with ea_; subst ea_)); subst ec_; clear en_))
                                                have GB39 := Aside0.mk gb39
                                                have GG39 := Aside0.mk HG39
                                                clear gb39 gl39 HG39
                                                (first | simp only [add_plain] at hx131_0 | skip)
                                                obtain ⟨hx39_0, hf39_0⟩ := Kd.R_celln 0 HL128_0.out (x11_2 : Int) p39 q39
                                                replace p39 := eq_true p39
                                                replace q39 := eq_true q39
                                                have hq56 : (x10_1 : Int) < (x9_2.length : Int) := (by have h_ : (x10_1 : Int) < ((x9_2.length : Int) : Int) := of_decide_eq_true (by first | (with_reducible assumption) | assumption); first | exact h_ | (have e_ := (Kd.S_reads' HO_9.out).1; omega) | simpa only [List.length_set, List.length_set] using h_)
                                                obtain ⟨oki56, ce56, hcl56, hM56, hcc56, hok56, hbk56⟩ := Kd.S_borrow HO_9.out [] (x10_1 : Int) (of_decide_eq_true (by first | (with_reducible assumption) | assumption)) (by first | exact hq56 | (have e_ := (Kd.S_reads' HO_9.out).1; omega))
                                                obtain ⟨ve56_0, rfl, ge56_0⟩ := hM56
                                                have hv56 := hcc56 0 _ rfl
                                                rw [Nat.add_zero, show ((Kd.slice 3 (Kd.int .i64))).sz = 1 from rfl, Nat.mul_one] at hv56
                                                replace hv56 := Option.some.inj (hv56.symm.trans HX128_0.out)
                                                subst hv56
                                                clear hcc56 hcl56
                                                replace ge56_0 := (show Kd.R (Kd.int .i64) 3 _ _ _ _ (rd_L1 x9_2 x10_1) from ge56_0)
                                                have HP56 := Kd.R_putg ge56_0 (x11_2 : Int) (wrap64 ((rd (rd_L1 x9_2 x10_1) x11_2) + (rd (rd_L1 x9_2 x10_1) (ji36))))
                                                rw [← Ny132.out] at HP56
                                                have HS56 := hbk56 HP56.2 (fun k_ e_ => by injection e_ with e_; subst e_; exact ge56_0.1 _ rfl) (x' := y132) (Kd.M_row HP56.1)
                                                rw [← Ny134.out] at HS56
                                                have HQ56 := Aside0.mk HS56
                                                clear HP56 HS56 hbk56 hok56
                                                (first | simp only [add_plain] at hx129_0 | skip)
                                                refine start_ (n := 18) (S := fun w' => w'.cell? ⟨go16, (x10_1).toNat, none⟩ = some (.slice (some ⟨go39, 0, none⟩) (rd_L1 x9_2 x10_1).length c128_0) ∧ w'.cell? ⟨go39, (x11_2).toNat, none⟩ = some (.int .i64 (rd (rd_L1 x9_2 x10_1) x11_2)) ∧ w'.cell? ⟨go16, (x10_1).toNat, none⟩ = some (.slice (some ⟨go39, 0, none⟩) (rd_L1 x9_2 x10_1).length c128_0) ∧ w'.cell? ⟨go39, ((ji36)).toNat, none⟩ = some (.int .i64 (rd (rd_L1 x9_2 x10_1) (ji36)))) (ds := [17]) #[false, false, false, false, false, false, false, false, false, false, false, false, false, false, false, false, false, false] (by kernel_rfl) rfl rfl ⟨hx128_0, hx129_0, hx130_0, hx131_0⟩ (fun hHeld => ?_); refine with_tabW spec_baRest.tab11 spec_baRest.bits11 (fun HT_ HW_ => ?_)
                                                generalize wr.drew = w55 at HO_9 HB GG39 HL128_0 HL130_0 HQ56 HR128_0 HR130_0 HX128_0 HX130_0 hf39_0 hx128_0 hx129_0 hx130_0 hx131_0 hx39_0 hHeld ⊢
                                                refine pure_ (i := 0) (N := some 45) (v := ?_) (a' := ?_) #[true, false, false, false, false, false, false, false, false, false, false, false, false, false, false, false, false, false] rfl rfl (any_of HT_.out (by kernel_rfl)) (fun _ _ _ h => h) (Or.inl ⟨by rfl, ?_⟩) ?_ ?_
                                                rotate_left
                                                · intro w'
                                                  go_simp
                                                  with_reducible rfl
                                                rotate_left
                                                · simp only [Act.put, List.setIfInBounds_toArray, List.set_cons_zero, List.set_cons_succ, i64_w, i32_w]
                                                  rfl
                                                refine pure_ (i := 1) (N := some 46) (v := ?_) (a' := ?_) #[true, true, false, false, false, false, false, false, false, false, false, false, false, false, false, false, false, false] rfl rfl (any_of HT_.out (by kernel_rfl)) (fun _ _ _ h => h) (Or.inl ⟨by rfl, ?_⟩) ?_ ?_
                                                rotate_left
                                                · intro w'
                                                  go_simp
                                                  with_reducible rfl
                                                rotate_left
                                                · simp only [Act.put, List.setIfInBounds_toArray, List.set_cons_zero, List.set_cons_succ, i64_w, i32_w]
                                                  rfl
                                                refine pure_ (i := 2) (N := some 47) (v := ?_) (a' := ?_) #[true, true, true, false, false, false, false, false, false, false, false, false, false, false, false, false, false, false] rfl rfl (any_of HT_.out (by kernel_rfl)) (fun _ _ _ h => h) (Or.inl ⟨by rfl, ?_⟩) ?_ ?_
                                                rotate_left
                                                · intro w'
                                                  go_simp
                                                  with_reducible rfl
                                                rotate_left
                                                · simp only [Act.put, List.setIfInBounds_toArray, List.set_cons_zero, List.set_cons_succ, i64_w, i32_w]
                                                  rfl
                                                refine pure_ (i := 4) (N := some 49) (v := ?_) (a' := ?_) #[true, true, true, false, true, false, false, false, false, false, false, false, false, false, false, false, false, false] rfl rfl (any_of HT_.out (by kernel_rfl)) (fun _ _ _ h => h) (Or.inl ⟨by rfl, ?_⟩) ?_ ?_
                                                rotate_left
                                                · intro w'
                                                  go_simp
                                                  with_reducible rfl
                                                rotate_left
                                                · simp only [Act.put, List.setIfInBounds_toArray, List.set_cons_zero, List.set_cons_succ, i64_w, i32_w]
                                                  rfl
                                                refine pure_ (i := 7) (N := some 52) (v := ?_) (a' := ?_) #[true, true, true, false, true, false, false, true, false, false, false, false, false, false, false, false, false, false] rfl rfl (any_of HT_.out (by kernel_rfl)) (fun _ _ _ h => h) (Or.inl ⟨by rfl, ?_⟩) ?_ ?_
                                                rotate_left
                                                · intro w'
                                                  go_simp
                                                  with_reducible rfl
                                                rotate_left
                                                · simp only [Act.put, List.setIfInBounds_toArray, List.set_cons_zero, List.set_cons_succ, i64_w, i32_w]
                                                  rfl
                                                refine pure_ (i := 8) (N := some 53) (v := ?_) (a' := ?_) #[true, true, true, false, true, false, false, true, true, false, false, false, false, false, false, false, false, false] rfl rfl (any_of HT_.out (by kernel_rfl)) (fun _ _ _ h => h) (Or.inl ⟨by rfl, ?_⟩) ?_ ?_
                                                rotate_left
                                                · intro w'
                                                  go_simp
                                                  with_reducible rfl
                                                rotate_left
                                                · simp only [Act.put, List.setIfInBounds_toArray, List.set_cons_zero, List.set_cons_succ, i64_w, i32_w]
                                                  rfl
                                                refine pure_ (i := 9) (N := some 54) (v := ?_) (a' := ?_) #[true, true, true, false, true, false, false, true, true, true, false, false, false, false, false, false, false, false] rfl rfl (any_of HT_.out (by kernel_rfl)) (fun _ _ _ h => h) (Or.inl ⟨by rfl, ?_⟩) ?_ ?_
                                                rotate_left
                                                · intro w'
                                                  go_simp
                                                  with_reducible rfl
                                                rotate_left
                                                · simp only [Act.put, List.setIfInBounds_toArray, List.set_cons_zero, List.set_cons_succ, i64_w, i32_w]
                                                  rfl
                                                refine pure_ (i := 11) (N := some 56) (v := ?_) (a' := ?_) #[true, true, true, false, true, false, false, true, true, true, false, true, false, false, false, false, false, false] rfl rfl (any_of HT_.out (by kernel_rfl)) (fun _ _ _ h => h) (Or.inl ⟨by rfl, ?_⟩) ?_ ?_
                                                rotate_left
                                                · intro w'
                                                  go_simp
                                                  with_reducible rfl
                                                rotate_left
                                                · simp only [Act.put, List.setIfInBounds_toArray, List.set_cons_zero, List.set_cons_succ, i64_w, i32_w]
                                                  rfl
                                                refine pure_ (i := 12) (N := some 57) (v := ?_) (a' := ?_) #[true, true, true, false, true, false, false, true, true, true, false, true, true, false, false, false, false, false] rfl rfl (any_of HT_.out (by kernel_rfl)) (fun _ _ _ h => h) (Or.inl ⟨by rfl, ?_⟩) ?_ ?_
                                                rotate_left
                                                · intro w'
                                                  go_simp
                                                  with_reducible rfl
                                                rotate_left
                                                · simp only [Act.put, List.setIfInBounds_toArray, List.set_cons_zero, List.set_cons_succ, i64_w, i32_w]
                                                  rfl
                                                refine take_ (i := 3) (N := some 48) (v := ?_) (a' := ?_) #[true, true, true, true, true, false, false, true, true, true, false, true, true, false, false, false, false, false] rfl rfl (take_ofW HT_.out HW_.out (by kernel_rfl)) (fun _ _ _ h => h) (Or.inl ⟨by rfl, ?_⟩) hHeld ?_ ?_
                                                rotate_left
                                                · rintro w' ⟨s0, s1, s2, s3⟩
                                                  go_simp
                                                  with_reducible rfl
                                                rotate_left
                                                · simp only [Act.put, List.setIfInBounds_toArray, List.set_cons_zero, List.set_cons_succ, i64_w, i32_w]
                                                  rfl
                                                refine pure_ (i := 5) (N := some 50) (v := ?_) (a' := ?_) #[true, true, true, true, true, true, false, true, true, true, false, true, true, false, false, false, false, false] rfl rfl (any_of HT_.out (by kernel_rfl)) (fun _ _ _ h => h) (Or.inl ⟨by rfl, ?_⟩) ?_ ?_
                                                rotate_left
                                                · intro w'
                                                  go_simp
                                                  with_reducible rfl
                                                rotate_left
                                                · simp only [Act.put, List.setIfInBounds_toArray, List.set_cons_zero, List.set_cons_succ, i64_w, i32_w]
                                                  rfl
                                                refine take_ (i := 6) (N := some 51) (v := ?_) (a' := ?_) #[true, true, true, true, true, true, true, true, true, true, false, true, true, false, false, false, false, false] rfl rfl (take_ofW HT_.out HW_.out (by kernel_rfl)) (fun _ _ _ h => h) (Or.inl ⟨by rfl, ?_⟩) hHeld ?_ ?_
                                                rotate_left
                                                · rintro w' ⟨s0, s1, s2, s3⟩
                                                  go_simp
                                                  with_reducible rfl
                                                rotate_left
                                                · simp only [Act.put, List.setIfInBounds_toArray, List.set_cons_zero, List.set_cons_succ, i64_w, i32_w]
                                                  rfl
                                                refine take_ (i := 10) (N := some 55) (v := ?_) (a' := ?_) #[true, true, true, true, true, true, true, true, true, true, true, true, true, false, false, false, false, false] rfl rfl (take_ofW HT_.out HW_.out (by kernel_rfl)) (fun _ _ _ h => h) (Or.inl ⟨by rfl, ?_⟩) hHeld ?_ ?_
                                                rotate_left
                                                · rintro w' ⟨s0, s1, s2, s3⟩
                                                  go_simp
                                                  with_reducible rfl
                                                rotate_left
                                                · simp only [Act.put, List.setIfInBounds_toArray, List.set_cons_zero, List.set_cons_succ, i64_w, i32_w]
                                                  rfl
                                                refine pure_ (i := 13) (N := some 58) (v := ?_) (a' := ?_) #[true, true, true, true, true, true, true, true, true, true, true, true, true, true, false, false, false, false] rfl rfl (any_of HT_.out (by kernel_rfl)) (fun _ _ _ h => h) (Or.inl ⟨by rfl, ?_⟩) ?_ ?_
                                                rotate_left
                                                · intro w'
                                                  go_simp
                                                  with_reducible rfl
                                                rotate_left
                                                · simp only [Act.put, List.setIfInBounds_toArray, List.set_cons_zero, List.set_cons_succ, i64_w, i32_w]
                                                  rfl
                                                refine take_ (i := 14) (N := some 59) (v := ?_) (a' := ?_) #[true, true, true, true, true, true, true, true, true, true, true, true, true, true, true, false, false, false] rfl rfl (take_ofW HT_.out HW_.out (by kernel_rfl)) (fun _ _ _ h => h) (Or.inl ⟨by rfl, ?_⟩) hHeld ?_ ?_
                                                rotate_left
                                                · rintro w' ⟨s0, s1, s2, s3⟩
                                                  go_simp
                                                  with_reducible rfl
                                                rotate_left
                                                · simp only [Act.put, List.setIfInBounds_toArray, List.set_cons_zero, List.set_cons_succ, i64_w, i32_w]
                                                  rfl
                                                refine pure_ (i := 15) (N := some 60) (v := ?_) (a' := ?_) #[true, true, true, true, true, true, true, true, true, true, true, true, true, true, true, true, false, false] rfl rfl (any_of HT_.out (by kernel_rfl)) (fun _ _ _ h => h) (Or.inl ⟨by rfl, ?_⟩) ?_ ?_
                                                rotate_left
                                                · intro w'
                                                  go_simp
                                                  with_reducible rfl
                                                rotate_left
                                                · simp only [Act.put, List.setIfInBounds_toArray, List.set_cons_zero, List.set_cons_succ, i64_w, i32_w]
                                                  rfl
                                                refine pure_ (i := 16) (N := some 61) (v := ?_) (a' := ?_) #[true, true, true, true, true, true, true, true, true, true, true, true, true, true, true, true, true, false] rfl rfl (any_of HT_.out (by kernel_rfl)) (fun _ _ _ h => h) (Or.inl ⟨by rfl, ?_⟩) ?_ ?_
                                                rotate_left
                                                · intro w'
                                                  go_simp
                                                  with_reducible rfl
                                                rotate_left
                                                · simp only [Act.put, List.setIfInBounds_toArray, List.set_cons_zero, List.set_cons_succ, i64_w, i32_w]
                                                  rfl
                                                refine last_ (i := 17) (N := none) #[true, true, true, true, true, true, true, true, true, true, true, true, true, true, true, true, true, true] rfl rfl (one_of HT_.out (by kernel_rfl)) (by decide) (fun K hK => ?_)
                                                refine skip_ (w1 := ?_) (by rfl) rfl ?_ ?_
                                                rotate_left
                                                · go_simp
                                                  rfl
                                                refine hK.out _ _ ?_
                                                clear hK K
                                                refine done_ (done_of HT_.out (by kernel_rfl)) ?_
                                                try go_wp2
                                                (try simp only [← hl9_2])
                                                go_roundg k2
                                                case measure => have := HK1.out; have := HK2.out; omega
                                                case rel => exact ⟨(y134), (wrap64 (x11_2 + 1)), (by first | rfl | (simp; done) | (simp [*]; done)), H', ⟨by have := HK1.out; have := HK2.out; omega⟩, ⟨by (try simp only [hl9_2]); (with_reducible repeat (first | apply Kd.S_alloc | apply Kd.S_drewN | apply Kd.S_drew)); exact HQ56.out⟩, ⟨by repeat (first | (with_reducible first | exact HB.out | apply below_alloc | apply pw_below_drewN | apply below_drew1 | refine below_set ?_ GB39.out) | exact HB.out)⟩⟩
                                            · rw [if_neg c40] at H
                                              have c40b0 : decide (0 < x10_1) = false := decide_eq_false c40
                                              clear c40
                                              have H' := Aside0.mk H
                                              clear H
                                              try go_wp2
                                              have n0_ := Aside0.mk (Kd.S_drew HO_9.out)
                                              have n1_ := Aside0.mk (below_drew1 HB.out)
                                              clear HO_9
                                              clear HB
                                              have HO_9 := n0_
                                              have HB := n1_
                                              clear n0_ n1_
                                              have p128 : 0 ≤ (x10_1 : Int) := of_decide_eq_true (by first | (with_reducible assumption) | assumption)
                                              have q128 : x10_1 < (x9_2.length : Int) := of_decide_eq_true (by first | (with_reducible assumption) | assumption)
                                              obtain ⟨ad128, A128_0, c128_0, e128, hx128_0, hl128_0, hi128_0⟩ := at_L1 (Kd.S_reads' HO_9.out).2.2 x10_1 p128 q128
                                              obtain rfl : (⟨go16, 0, none⟩ : Addr) = ad128 := (by injection e128)
                                              obtain ⟨ce128, hce128, hMe128, hcc128⟩ := Kd.S_get HO_9.out [] x10_1 p128 (by first | exact q128 | exact of_decide_eq_true (by first | (with_reducible assumption) | assumption) | (have e_ := (Kd.S_reads' HO_9.out).1; omega))
                                              obtain ⟨ve128_0, rfl, ge128_0⟩ := hMe128
                                              have hv128_0 := hcc128 0 _ rfl
                                              rw [Nat.add_zero, show ((Kd.slice 3 (Kd.int .i64))).sz = 1 from rfl, Nat.mul_one] at hv128_0
                                              replace hv128_0 := Option.some.inj (hv128_0.symm.trans hx128_0)
                                              rw [hv128_0] at ge128_0
                                              have HL128_0 := Aside0.mk (show Kd.R (Kd.int .i64) 3 _ _ _ _ (rd_L1 x9_2 x10_1) from ge128_0)
                                              clear hv128_0 ge128_0
                                              have HX128_0 := Aside0.mk hx128_0
                                              clear hcc128 hce128
                                              (first | simp only [add_plain] at hx128_0 | simp only [add_at] at hx128_0 | simp only [Addr.add, Nat.zero_add] at hx128_0 | skip)
                                              have HR128_0 := Aside0.mk hi128_0
                                              have HC128_0 := Aside0.mk hl128_0
                                              clear hi128_0 hl128_0
                                              replace p128 := eq_true p128
                                              replace q128 := eq_true q128
                                              have p129 : 0 ≤ (x11_2 : Int) := of_decide_eq_true (by first | (with_reducible assumption) | assumption)
                                              have q129 : x11_2 < ((rd_L1 x9_2 x10_1).length : Int) := of_decide_eq_true (by first | (with_reducible assumption) | assumption)
                                              obtain ⟨ad129, e129, hx129_0⟩ := Kd.at_int (by repeat (first | (with_reducible exact HR128_0.out) | (with_reducible refine Kd.C_alloc ?_ _) | (with_reducible refine Kd.C_drewN ?_ _) | (with_reducible refine Kd.C_drew ?_) | exact HR128_0.out)) x11_2 p129 q129
                                              cases e129
                                              replace p129 := eq_true p129
                                              replace q129 := eq_true q129
                                              have p130 : 0 ≤ (x10_1 : Int) := of_decide_eq_true (by first | (with_reducible assumption) | assumption)
                                              have q130 : x10_1 < (x9_2.length : Int) := of_decide_eq_true (by first | (with_reducible assumption) | assumption)
                                              obtain ⟨ad130, A130_0, c130_0, e130, hx130_0, hl130_0, hi130_0⟩ := at_L1 (Kd.S_reads' HO_9.out).2.2 x10_1 p130 q130
                                              obtain rfl : (⟨go16, 0, none⟩ : Addr) = ad130 := (by injection e130)
                                              obtain ⟨ce130, hce130, hMe130, hcc130⟩ := Kd.S_get HO_9.out [] x10_1 p130 (by first | exact q130 | exact of_decide_eq_true (by first | (with_reducible assumption) | assumption) | (have e_ := (Kd.S_reads' HO_9.out).1; omega))
                                              obtain ⟨ve130_0, rfl, ge130_0⟩ := hMe130
                                              have hv130_0 := hcc130 0 _ rfl
                                              rw [Nat.add_zero, show ((Kd.slice 3 (Kd.int .i64))).sz = 1 from rfl, Nat.mul_one] at hv130_0
                                              replace hv130_0 := Option.some.inj (hv130_0.symm.trans hx130_0)
                                              rw [hv130_0] at ge130_0
                                              have HL130_0 := Aside0.mk (show Kd.R (Kd.int .i64) 3 _ _ _ _ (rd_L1 x9_2 x10_1) from ge130_0)
                                              clear hv130_0 ge130_0
                                              have HX130_0 := Aside0.mk hx130_0
                                              clear hcc130 hce130
                                              (first | simp only [add_plain] at hx130_0 | simp only [add_at] at hx130_0 | simp only [Addr.add, Nat.zero_add] at hx130_0 | skip)
                                              have HR130_0 := Aside0.mk hi130_0
                                              have HC130_0 := Aside0.mk hl130_0
                                              clear hi130_0 hl130_0
                                              replace p130 := eq_true p130
                                              replace q130 := eq_true q130
                                              have ea_ := Option.some.inj (hx128_0.symm.trans hx130_0)
                                              injection ea_ with ea_ en_ ec_
                                              subst ea_
                                              subst ec_
                                              clear en_
                                              have p131 : 0 ≤ ((ji36) : Int) := of_decide_eq_true (by first | (with_reducible assumption) | assumption)
                                              have q131 : (ji36) < ((rd_L1 x9_2 x10_1).length : Int) := of_decide_eq_true (by first | (with_reducible assumption) | assumption)
                                              obtain ⟨ad131, e131, hx131_0⟩ := Kd.at_int (by repeat (first | (with_reducible exact HR130_0.out) | (with_reducible refine Kd.C_alloc ?_ _) | (with_reducible refine Kd.C_drewN ?_ _) | (with_reducible refine Kd.C_drew ?_) | exact HR130_0.out)) (ji36) p131 q131
                                              cases e131
                                              replace p131 := eq_true p131
                                              replace q131 := eq_true q131
                                              have p39 : 0 ≤ (x11_2 : Int) := of_decide_eq_true (by first | (with_reducible assumption) | assumption)
                                              have q39 : (x11_2 : Int) < (((rd_L1 x9_2 x10_1).length : Int) : Int) := of_decide_eq_true (by first | (with_reducible assumption) | assumption)
                                              obtain ⟨go39, co39, eo39, gb39, gl39, cl39, HG39⟩ := Kd.R_form HL128_0.out (by omega)
                                              (first | cases eo39 | (injection eo39 with ea_ en_ ec_; (first | subst ea_ | (injection ea_ with ea_; subst ea_)); subst ec_; clear en_))
                                              have GB39 := Aside0.mk gb39
                                              have GG39 := Aside0.mk HG39
                                              clear gb39 gl39 HG39
                                              (first | simp only [add_plain] at hx131_0 | skip)
                                              obtain ⟨hx39_0, hf39_0⟩ := Kd.R_celln 0 HL128_0.out (x11_2 : Int) p39 q39
                                              replace p39 := eq_true p39
                                              replace q39 := eq_true q39
                                              have hq59 : (x10_1 : Int) < (x9_2.length : Int) := (by have h_ : (x10_1 : Int) < ((x9_2.length : Int) : Int) := of_decide_eq_true (by first | (with_reducible assumption) | assumption); first | exact h_ | (have e_ := (Kd.S_reads' HO_9.out).1; omega) | simpa only [List.length_set, List.length_set] using h_)
                                              obtain ⟨oki59, ce59, hcl59, hM59, hcc59, hok59, hbk59⟩ := Kd.S_borrow HO_9.out [] (x10_1 : Int) (of_decide_eq_true (by first | (with_reducible assumption) | assumption)) (by first | exact hq59 | (have e_ := (Kd.S_reads' HO_9.out).1; omega))
                                              obtain ⟨ve59_0, rfl, ge59_0⟩ := hM59
                                              have hv59 := hcc59 0 _ rfl
                                              rw [Nat.add_zero, show ((Kd.slice 3 (Kd.int .i64))).sz = 1 from rfl, Nat.mul_one] at hv59
                                              replace hv59 := Option.some.inj (hv59.symm.trans HX128_0.out)
                                              subst hv59
                                              clear hcc59 hcl59
                                              replace ge59_0 := (show Kd.R (Kd.int .i64) 3 _ _ _ _ (rd_L1 x9_2 x10_1) from ge59_0)
                                              have HP59 := Kd.R_putg ge59_0 (x11_2 : Int) (wrap64 ((rd (rd_L1 x9_2 x10_1) x11_2) + (rd (rd_L1 x9_2 x10_1) (ji36))))
                                              rw [← Ny132.out] at HP59
                                              have HS59 := hbk59 HP59.2 (fun k_ e_ => by injection e_ with e_; subst e_; exact ge59_0.1 _ rfl) (x' := y132) (Kd.M_row HP59.1)
                                              rw [← Ny134.out] at HS59
                                              have HQ59 := Aside0.mk HS59
                                              clear HP59 HS59 hbk59 hok59
                                              (first | simp only [add_plain] at hx129_0 | skip)
                                              refine start_ (n := 18) (S := fun w' => w'.cell? ⟨go16, (x10_1).toNat, none⟩ = some (.slice (some ⟨go39, 0, none⟩) (rd_L1 x9_2 x10_1).length c128_0) ∧ w'.cell? ⟨go39, (x11_2).toNat, none⟩ = some (.int .i64 (rd (rd_L1 x9_2 x10_1) x11_2)) ∧ w'.cell? ⟨go16, (x10_1).toNat, none⟩ = some (.slice (some ⟨go39, 0, none⟩) (rd_L1 x9_2 x10_1).length c128_0) ∧ w'.cell? ⟨go39, ((ji36)).toNat, none⟩ = some (.int .i64 (rd (rd_L1 x9_2 x10_1) (ji36)))) (ds := [17]) #[false, false, false, false, false, false, false, false, false, false, false, false, false, false, false, false, false, false] (by kernel_rfl) rfl rfl ⟨hx128_0, hx129_0, hx130_0, hx131_0⟩ (fun hHeld => ?_); refine with_tabW spec_baRest.tab11 spec_baRest.bits11 (fun HT_ HW_ => ?_)
                                              generalize wr.drew = w58 at HO_9 HB GG39 HL128_0 HL130_0 HQ59 HR128_0 HR130_0 HX128_0 HX130_0 hf39_0 hx128_0 hx129_0 hx130_0 hx131_0 hx39_0 hHeld ⊢
                                              refine pure_ (i := 0) (N := some 45) (v := ?_) (a' := ?_) #[true, false, false, false, false, false, false, false, false, false, false, false, false, false, false, false, false, false] rfl rfl (any_of HT_.out (by kernel_rfl)) (fun _ _ _ h => h) (Or.inl ⟨by rfl, ?_⟩) ?_ ?_
                                              rotate_left
                                              · intro w'
                                                go_simp
                                                with_reducible rfl
                                              rotate_left
                                              · simp only [Act.put, List.setIfInBounds_toArray, List.set_cons_zero, List.set_cons_succ, i64_w, i32_w]
                                                rfl
                                              refine pure_ (i := 1) (N := some 46) (v := ?_) (a' := ?_) #[true, true, false, false, false, false, false, false, false, false, false, false, false, false, false, false, false, false] rfl rfl (any_of HT_.out (by kernel_rfl)) (fun _ _ _ h => h) (Or.inl ⟨by rfl, ?_⟩) ?_ ?_
                                              rotate_left
                                              · intro w'
                                                go_simp
                                                with_reducible rfl
                                              rotate_left
                                              · simp only [Act.put, List.setIfInBounds_toArray, List.set_cons_zero, List.set_cons_succ, i64_w, i32_w]
                                                rfl
                                              refine pure_ (i := 2) (N := some 47) (v := ?_) (a' := ?_) #[true, true, true, false, false, false, false, false, false, false, false, false, false, false, false, false, false, false] rfl rfl (any_of HT_.out (by kernel_rfl)) (fun _ _ _ h => h) (Or.inl ⟨by rfl, ?_⟩) ?_ ?_
                                              rotate_left
                                              · intro w'
                                                go_simp
                                                with_reducible rfl
                                              rotate_left
                                              · simp only [Act.put, List.setIfInBounds_toArray, List.set_cons_zero, List.set_cons_succ, i64_w, i32_w]
                                                rfl
                                              refine pure_ (i := 4) (N := some 49) (v := ?_) (a' := ?_) #[true, true, true, false, true, false, false, false, false, false, false, false, false, false, false, false, false, false] rfl rfl (any_of HT_.out (by kernel_rfl)) (fun _ _ _ h => h) (Or.inl ⟨by rfl, ?_⟩) ?_ ?_
                                              rotate_left
                                              · intro w'
                                                go_simp
                                                with_reducible rfl
                                              rotate_left
                                              · simp only [Act.put, List.setIfInBounds_toArray, List.set_cons_zero, List.set_cons_succ, i64_w, i32_w]
                                                rfl
                                              refine pure_ (i := 7) (N := some 52) (v := ?_) (a' := ?_) #[true, true, true, false, true, false, false, true, false, false, false, false, false, false, false, false, false, false] rfl rfl (any_of HT_.out (by kernel_rfl)) (fun _ _ _ h => h) (Or.inl ⟨by rfl, ?_⟩) ?_ ?_
                                              rotate_left
                                              · intro w'
                                                go_simp
                                                with_reducible rfl
                                              rotate_left
                                              · simp only [Act.put, List.setIfInBounds_toArray, List.set_cons_zero, List.set_cons_succ, i64_w, i32_w]
                                                rfl
                                              refine pure_ (i := 8) (N := some 53) (v := ?_) (a' := ?_) #[true, true, true, false, true, false, false, true, true, false, false, false, false, false, false, false, false, false] rfl rfl (any_of HT_.out (by kernel_rfl)) (fun _ _ _ h => h) (Or.inl ⟨by rfl, ?_⟩) ?_ ?_
                                              rotate_left
                                              · intro w'
                                                go_simp
                                                with_reducible rfl
                                              rotate_left
                                              · simp only [Act.put, List.setIfInBounds_toArray, List.set_cons_zero, List.set_cons_succ, i64_w, i32_w]
                                                rfl
                                              refine pure_ (i := 9) (N := some 54) (v := ?_) (a' := ?_) #[true, true, true, false, true, false, false, true, true, true, false, false, false, false, false, false, false, false] rfl rfl (any_of HT_.out (by kernel_rfl)) (fun _ _ _ h => h) (Or.inl ⟨by rfl, ?_⟩) ?_ ?_
                                              rotate_left
                                              · intro w'
                                                go_simp
                                                with_reducible rfl
                                              rotate_left
                                              · simp only [Act.put, List.setIfInBounds_toArray, List.set_cons_zero, List.set_cons_succ, i64_w, i32_w]
                                                rfl
                                              refine pure_ (i := 11) (N := some 56) (v := ?_) (a' := ?_) #[true, true, true, false, true, false, false, true, true, true, false, true, false, false, false, false, false, false] rfl rfl (any_of HT_.out (by kernel_rfl)) (fun _ _ _ h => h) (Or.inl ⟨by rfl, ?_⟩) ?_ ?_
                                              rotate_left
                                              · intro w'
                                                go_simp
                                                with_reducible rfl
                                              rotate_left
                                              · simp only [Act.put, List.setIfInBounds_toArray, List.set_cons_zero, List.set_cons_succ, i64_w, i32_w]
                                                rfl
                                              refine pure_ (i := 12) (N := some 57) (v := ?_) (a' := ?_) #[true, true, true, false, true, false, false, true, true, true, false, true, true, false, false, false, false, false] rfl rfl (any_of HT_.out (by kernel_rfl)) (fun _ _ _ h => h) (Or.inl ⟨by rfl, ?_⟩) ?_ ?_
                                              rotate_left
                                              · intro w'
                                                go_simp
                                                with_reducible rfl
                                              rotate_left
                                              · simp only [Act.put, List.setIfInBounds_toArray, List.set_cons_zero, List.set_cons_succ, i64_w, i32_w]
                                                rfl
                                              refine take_ (i := 3) (N := some 48) (v := ?_) (a' := ?_) #[true, true, true, true, true, false, false, true, true, true, false, true, true, false, false, false, false, false] rfl rfl (take_ofW HT_.out HW_.out (by kernel_rfl)) (fun _ _ _ h => h) (Or.inl ⟨by rfl, ?_⟩) hHeld ?_ ?_
                                              rotate_left
                                              · rintro w' ⟨s0, s1, s2, s3⟩
                                                go_simp
                                                with_reducible rfl
                                              rotate_left
                                              · simp only [Act.put, List.setIfInBounds_toArray, List.set_cons_zero, List.set_cons_succ, i64_w, i32_w]
                                                rfl
                                              refine pure_ (i := 5) (N := some 50) (v := ?_) (a' := ?_) #[true, true, true, true, true, true, false, true, true, true, false, true, true, false, false, false, false, false] rfl rfl (any_of HT_.out (by kernel_rfl)) (fun _ _ _ h => h) (Or.inl ⟨by rfl, ?_⟩) ?_ ?_
                                              rotate_left
                                              · intro w'
                                                go_simp
                                                with_reducible rfl
                                              rotate_left
                                              · simp only [Act.put, List.setIfInBounds_toArray, List.set_cons_zero, List.set_cons_succ, i64_w, i32_w]
                                                rfl
                                              refine take_ (i := 6) (N := some 51) (v := ?_) (a' := ?_) #[true, true, true, true, true, true, true, true, true, true, false, true, true, false, false, false, false, false] rfl rfl (take_ofW HT_.out HW_.out (by kernel_rfl)) (fun _ _ _ h => h) (Or.inl ⟨by rfl, ?_⟩) hHeld ?_ ?_
                                              rotate_left
                                              · rintro w' ⟨s0, s1, s2, s3⟩
                                                go_simp
                                                with_reducible rfl
                                              rotate_left
                                              · simp only [Act.put, List.setIfInBounds_toArray, List.set_cons_zero, List.set_cons_succ, i64_w, i32_w]
                                                rfl
                                              refine take_ (i := 10) (N := some 55) (v := ?_) (a' := ?_) #[true, true, true, true, true, true, true, true, true, true, true, true, true, false, false, false, false, false] rfl rfl (take_ofW HT_.out HW_.out (by kernel_rfl)) (fun _ _ _ h => h) (Or.inl ⟨by rfl, ?_⟩) hHeld ?_ ?_
                                              rotate_left
                                              · rintro w' ⟨s0, s1, s2, s3⟩
                                                go_simp
                                                with_reducible rfl
                                              rotate_left
                                              · simp only [Act.put, List.setIfInBounds_toArray, List.set_cons_zero, List.set_cons_succ, i64_w, i32_w]
                                                rfl
                                              refine pure_ (i := 13) (N := some 58) (v := ?_) (a' := ?_) #[true, true, true, true, true, true, true, true, true, true, true, true, true, true, false, false, false, false] rfl rfl (any_of HT_.out (by kernel_rfl)) (fun _ _ _ h => h) (Or.inl ⟨by rfl, ?_⟩) ?_ ?_
                                              rotate_left
                                              · intro w'
                                                go_simp
                                                with_reducible rfl
                                              rotate_left
                                              · simp only [Act.put, List.setIfInBounds_toArray, List.set_cons_zero, List.set_cons_succ, i64_w, i32_w]
                                                rfl
                                              refine take_ (i := 14) (N := some 59) (v := ?_) (a' := ?_) #[true, true, true, true, true, true, true, true, true, true, true, true, true, true, true, false, false, false] rfl rfl (take_ofW HT_.out HW_.out (by kernel_rfl)) (fun _ _ _ h => h) (Or.inl ⟨by rfl, ?_⟩) hHeld ?_ ?_
                                              rotate_left
                                              · rintro w' ⟨s0, s1, s2, s3⟩
                                                go_simp
                                                with_reducible rfl
                                              rotate_left
                                              · simp only [Act.put, List.setIfInBounds_toArray, List.set_cons_zero, List.set_cons_succ, i64_w, i32_w]
                                                rfl
                                              refine pure_ (i := 15) (N := some 60) (v := ?_) (a' := ?_) #[true, true, true, true, true, true, true, true, true, true, true, true, true, true, true, true, false, false] rfl rfl (any_of HT_.out (by kernel_rfl)) (fun _ _ _ h => h) (Or.inl ⟨by rfl, ?_⟩) ?_ ?_
                                              rotate_left
                                              · intro w'
                                                go_simp
                                                with_reducible rfl
                                              rotate_left
                                              · simp only [Act.put, List.setIfInBounds_toArray, List.set_cons_zero, List.set_cons_succ, i64_w, i32_w]
                                                rfl
                                              refine pure_ (i := 16) (N := some 61) (v := ?_) (a' := ?_) #[true, true, true, true, true, true, true, true, true, true, true, true, true, true, true, true, true, false] rfl rfl (any_of HT_.out (by kernel_rfl)) (fun _ _ _ h => h) (Or.inl ⟨by rfl, ?_⟩) ?_ ?_
                                              rotate_left
                                              · intro w'
                                                go_simp
                                                with_reducible rfl
                                              rotate_left
                                              · simp only [Act.put, List.setIfInBounds_toArray, List.set_cons_zero, List.set_cons_succ, i64_w, i32_w]
                                                rfl
                                              refine last_ (i := 17) (N := none) #[true, true, true, true, true, true, true, true, true, true, true, true, true, true, true, true, true, true] rfl rfl (one_of HT_.out (by kernel_rfl)) (by decide) (fun K hK => ?_)
                                              refine skip_ (w1 := ?_) (by rfl) rfl ?_ ?_
                                              rotate_left
                                              · go_simp
                                                rfl
                                              refine hK.out _ _ ?_
                                              clear hK K
                                              refine done_ (done_of HT_.out (by kernel_rfl)) ?_
                                              try go_wp2
                                              (try simp only [← hl9_2])
                                              go_roundg k2
                                              case measure => have := HK1.out; have := HK2.out; omega
                                              case rel => exact ⟨(y134), (wrap64 (x11_2 + 1)), (by first | rfl | (simp; done) | (simp [*]; done)), H', ⟨by have := HK1.out; have := HK2.out; omega⟩, ⟨by (try simp only [hl9_2]); (with_reducible repeat (first | apply Kd.S_alloc | apply Kd.S_drewN | apply Kd.S_drew)); exact HQ59.out⟩, ⟨by repeat (first | (with_reducible first | exact HB.out | apply below_alloc | apply pw_below_drewN | apply below_drew1 | refine below_set ?_ GB39.out) | exact HB.out)⟩⟩
                                          · rw [if_neg c38] at H
                                            exact absurd H (by simp)
                                        · rw [if_neg c37] at H
                                          exact absurd H (by simp)
                                      · rw [if_neg c35] at H
                                        exact absurd H (by simp)
                                    · rw [if_neg c34] at H
                                      exact absurd H (by simp)
                                  · rw [if_neg c33] at H
                                    exact absurd H (by simp)
                                · rw [if_neg c32] at H
                                  exact absurd H (by simp)
                              · rw [if_neg c31] at H
                                have c31b0 : decide (0 < x11_2) = false := decide_eq_false c31
                                clear c31
                                by_cases c61 : x10_1 > 0
                                · rw [if_pos c61] at H
                                  have c61b0 : decide (0 < x10_1) = true := decide_eq_true c61
                                  clear c61
                                  by_cases c62 : (wrap64 ((wrap64 ((wrap64 (a3 + (wrap64 (a0 - x11_2)))) - (wrap64 (a2 * (wrap64 (a1 - x10_1)))))) - a2)) ≥ 0
                                  · rw [if_pos c62] at H
                                    have c62b0 : decide (0 ≤ (wrap64 ((wrap64 ((wrap64 (a3 + (wrap64 (a0 - x11_2)))) - (wrap64 (a2 * (wrap64 (a1 - x10_1)))))) - a2))) = true := decide_eq_true c62
                                    clear c62
                                    by_cases c63 : 0 ≤ x10_1
                                    · rw [if_pos c63] at H
                                      have c63b0 : decide (0 ≤ x10_1) = true := decide_eq_true c63
                                      clear c63
                                      by_cases c64 : x10_1 < (x9_2.length : Int)
                                      · rw [if_pos c64] at H
                                        have c64b0 : decide (x10_1 < (x9_2.length : Int)) = true := decide_eq_true c64
                                        (try (have c64b79_2 := c64b0; rw [hl9_2] at c64b79_2))
                                        clear c64
                                        by_cases c65 : 0 ≤ x11_2
                                        · rw [if_pos c65] at H
                                          have c65b0 : decide (0 ≤ x11_2) = true := decide_eq_true c65
                                          clear c65
                                          by_cases c66 : x11_2 < ((rd_L1 x9_2 x10_1).length : Int)
                                          · rw [if_pos c66] at H
                                            have c66b0 : decide (x11_2 < ((rd_L1 x9_2 x10_1).length : Int)) = true := decide_eq_true c66
                                            clear c66
                                            obtain ⟨ji67, hji67⟩ : ∃ j_ : Int, (wrap64 (x10_1 - 1)) = j_ := ⟨_, rfl⟩
                                            replace H : (if 0 ≤ (ji67) then (if (ji67) < (x9_2.length : Int) then (if x11_2 < ((rd_L1 x9_2 (ji67)).length : Int) then (spec_baRest.l1 k2 a0 a1 a2 a3 (x9_2.set (x10_1 : Int).toNat ((rd_L1 x9_2 x10_1).set (x11_2 : Int).toNat (wrap64 ((rd (rd_L1 x9_2 x10_1) x11_2) + (rd (rd_L1 x9_2 (ji67)) x11_2))))) x10_1 (wrap64 (x11_2 + 1))) else (none)) else (none)) else (none)) = some r := by first | (rw [hji67] at H; exact H) | (simp only [hji67] at H ⊢; exact H)
                                            have hji67w : (IntKind.i64.wrap (x10_1 - 1)) = ji67 := (i64_w _).trans hji67
                                            by_cases c68 : 0 ≤ (ji67)
                                            · rw [if_pos c68] at H
                                              have c68b0 : decide (0 ≤ (ji67)) = true := decide_eq_true c68
                                              clear c68
                                              by_cases c69 : (ji67) < (x9_2.length : Int)
                                              · rw [if_pos c69] at H
                                                have c69b0 : decide ((ji67) < (x9_2.length : Int)) = true := decide_eq_true c69
                                                clear c69
                                                by_cases c70 : x11_2 < ((rd_L1 x9_2 (ji67)).length : Int)
                                                · rw [if_pos c70] at H
                                                  have c70b0 : decide (x11_2 < ((rd_L1 x9_2 (ji67)).length : Int)) = true := decide_eq_true c70
                                                  clear c70
                                                  obtain ⟨y146, hy146⟩ : ∃ y_ : List Int, y_ = ((rd_L1 x9_2 x10_1).set (x11_2 : Int).toNat (wrap64 ((rd (rd_L1 x9_2 x10_1) x11_2) + (rd (rd_L1 x9_2 (ji67)) x11_2)))) := ⟨_, rfl⟩
                                                  replace H : (spec_baRest.l1 k2 a0 a1 a2 a3 (x9_2.set (x10_1 : Int).toNat y146) x10_1 (wrap64 (x11_2 + 1))) = some r := by first | (rw [hy146]; with_reducible exact H) | (have H2_ := (Option.bind_some _ _).symm.trans H; rw [hy146]; with_reducible exact H2_) | (have H2_ := (Option.bind_some _ _).symm.trans H; with_reducible exact H2_) | with_reducible exact H | (rw [hy146]; exact H) | exact H
                                                  have Ny146 := Aside0.mk hy146
                                                  clear hy146
                                                  obtain ⟨y148, hy148⟩ : ∃ y_ : List (List Int), y_ = (x9_2.set (x10_1 : Int).toNat y146) := ⟨_, rfl⟩
                                                  replace H : (spec_baRest.l1 k2 a0 a1 a2 a3 y148 x10_1 (wrap64 (x11_2 + 1))) = some r := by first | (rw [hy148]; with_reducible exact H) | (have H2_ := (Option.bind_some _ _).symm.trans H; rw [hy148]; with_reducible exact H2_) | (have H2_ := (Option.bind_some _ _).symm.trans H; with_reducible exact H2_) | with_reducible exact H | (rw [hy148]; exact H) | exact H
                                                  have Ny148 := Aside0.mk hy148
                                                  clear hy148
                                                  have H' := Aside0.mk H
                                                  clear H
                                                  try go_wp2
                                                  have n0_ := Aside0.mk (Kd.S_drew HO_9.out)
                                                  have n1_ := Aside0.mk (below_drew1 HB.out)
                                                  clear HO_9
                                                  clear HB
                                                  have HO_9 := n0_
                                                  have HB := n1_
                                                  clear n0_ n1_
                                                  have p142 : 0 ≤ (x10_1 : Int) := of_decide_eq_true (by first | (with_reducible assumption) | assumption)
                                                  have q142 : x10_1 < (x9_2.length : Int) := of_decide_eq_true (by first | (with_reducible assumption) | assumption)
                                                  obtain ⟨ad142, A142_0, c142_0, e142, hx142_0, hl142_0, hi142_0⟩ := at_L1 (Kd.S_reads' HO_9.out).2.2 x10_1 p142 q142
                                                  obtain rfl : (⟨go16, 0, none⟩ : Addr) = ad142 := (by injection e142)
                                                  obtain ⟨ce142, hce142, hMe142, hcc142⟩ := Kd.S_get HO_9.out [] x10_1 p142 (by first | exact q142 | exact of_decide_eq_true (by first | (with_reducible assumption) | assumption) | (have e_ := (Kd.S_reads' HO_9.out).1; omega))
                                                  obtain ⟨ve142_0, rfl, ge142_0⟩ := hMe142
                                                  have hv142_0 := hcc142 0 _ rfl
                                                  rw [Nat.add_zero, show ((Kd.slice 3 (Kd.int .i64))).sz = 1 from rfl, Nat.mul_one] at hv142_0
                                                  replace hv142_0 := Option.some.inj (hv142_0.symm.trans hx142_0)
                                                  rw [hv142_0] at ge142_0
                                                  have HL142_0 := Aside0.mk (show Kd.R (Kd.int .i64) 3 _ _ _ _ (rd_L1 x9_2 x10_1) from ge142_0)
                                                  clear hv142_0 ge142_0
                                                  have HX142_0 := Aside0.mk hx142_0
                                                  clear hcc142 hce142
                                                  (first | simp only [add_plain] at hx142_0 | simp only [add_at] at hx142_0 | simp only [Addr.add, Nat.zero_add] at hx142_0 | skip)
                                                  have HR142_0 := Aside0.mk hi142_0
                                                  have HC142_0 := Aside0.mk hl142_0
                                                  clear hi142_0 hl142_0
                                                  replace p142 := eq_true p142
                                                  replace q142 := eq_true q142
                                                  have p143 : 0 ≤ (x11_2 : Int) := of_decide_eq_true (by first | (with_reducible assumption) | assumption)
                                                  have q143 : x11_2 < ((rd_L1 x9_2 x10_1).length : Int) := of_decide_eq_true (by first | (with_reducible assumption) | assumption)
                                                  obtain ⟨ad143, e143, hx143_0⟩ := Kd.at_int (by repeat (first | (with_reducible exact HR142_0.out) | (with_reducible refine Kd.C_alloc ?_ _) | (with_reducible refine Kd.C_drewN ?_ _) | (with_reducible refine Kd.C_drew ?_) | exact HR142_0.out)) x11_2 p143 q143
                                                  cases e143
                                                  replace p143 := eq_true p143
                                                  replace q143 := eq_true q143
                                                  have p144 : 0 ≤ ((ji67) : Int) := of_decide_eq_true (by first | (with_reducible assumption) | assumption)
                                                  have q144 : (ji67) < (x9_2.length : Int) := of_decide_eq_true (by first | (with_reducible assumption) | assumption)
                                                  obtain ⟨ad144, A144_0, c144_0, e144, hx144_0, hl144_0, hi144_0⟩ := at_L1 (Kd.S_reads' HO_9.out).2.2 (ji67) p144 q144
                                                  obtain rfl : (⟨go16, 0, none⟩ : Addr) = ad144 := (by injection e144)
                                                  obtain ⟨ce144, hce144, hMe144, hcc144⟩ := Kd.S_get HO_9.out [] (ji67) p144 (by first | exact q144 | exact of_decide_eq_true (by first | (with_reducible assumption) | assumption) | (have e_ := (Kd.S_reads' HO_9.out).1; omega))
                                                  obtain ⟨ve144_0, rfl, ge144_0⟩ := hMe144
                                                  have hv144_0 := hcc144 0 _ rfl
                                                  rw [Nat.add_zero, show ((Kd.slice 3 (Kd.int .i64))).sz = 1 from rfl, Nat.mul_one] at hv144_0
                                                  replace hv144_0 := Option.some.inj (hv144_0.symm.trans hx144_0)
                                                  rw [hv144_0] at ge144_0
                                                  have HL144_0 := Aside0.mk (show Kd.R (Kd.int .i64) 3 _ _ _ _ (rd_L1 x9_2 (ji67)) from ge144_0)
                                                  clear hv144_0 ge144_0
                                                  have HX144_0 := Aside0.mk hx144_0
                                                  clear hcc144 hce144
                                                  (first | simp only [add_plain] at hx144_0 | simp only [add_at] at hx144_0 | simp only [Addr.add, Nat.zero_add] at hx144_0 | skip)
                                                  have HR144_0 := Aside0.mk hi144_0
                                                  have HC144_0 := Aside0.mk hl144_0
                                                  clear hi144_0 hl144_0
                                                  replace p144 := eq_true p144
                                                  replace q144 := eq_true q144
                                                  have p145 : 0 ≤ (x11_2 : Int) := of_decide_eq_true (by first | (with_reducible assumption) | assumption)
                                                  have q145 : x11_2 < ((rd_L1 x9_2 (ji67)).length : Int) := of_decide_eq_true (by first | (with_reducible assumption) | assumption)
                                                  obtain ⟨ad145, e145, hx145_0⟩ := Kd.at_int (by repeat (first | (with_reducible exact HR144_0.out) | (with_reducible refine Kd.C_alloc ?_ _) | (with_reducible refine Kd.C_drewN ?_ _) | (with_reducible refine Kd.C_drew ?_) | exact HR144_0.out)) x11_2 p145 q145
                                                  cases e145
                                                  replace p145 := eq_true p145
                                                  replace q145 := eq_true q145
                                                  have p71 : 0 ≤ (x11_2 : Int) := of_decide_eq_true (by first | (with_reducible assumption) | assumption)
                                                  have q71 : (x11_2 : Int) < (((rd_L1 x9_2 x10_1).length : Int) : Int) := of_decide_eq_true (by first | (with_reducible assumption) | assumption)
                                                  obtain ⟨go71, co71, eo71, gb71, gl71, cl71, HG71⟩ := Kd.R_form HL142_0.out (by omega)
                                                  (first | cases eo71 | (injection eo71 with ea_ en_ ec_; (first | subst ea_ | (injection ea_ with ea_; subst ea_)); subst ec_; clear en_))
                                                  have GB71 := Aside0.mk gb71
                                                  have GG71 := Aside0.mk HG71
                                                  clear gb71 gl71 HG71
                                                  (first | simp only [add_plain] at hx143_0 | skip)
                                                  obtain ⟨hx71_0, hf71_0⟩ := Kd.R_celln 0 HL142_0.out (x11_2 : Int) p71 q71
                                                  replace p71 := eq_true p71
                                                  replace q71 := eq_true q71
                                                  have hq73 : (x10_1 : Int) < (x9_2.length : Int) := (by have h_ : (x10_1 : Int) < ((x9_2.length : Int) : Int) := of_decide_eq_true (by first | (with_reducible assumption) | assumption); first | exact h_ | (have e_ := (Kd.S_reads' HO_9.out).1; omega) | simpa only [List.length_set, List.length_set] using h_)
                                                  obtain ⟨oki73, ce73, hcl73, hM73, hcc73, hok73, hbk73⟩ := Kd.S_borrow HO_9.out [] (x10_1 : Int) (of_decide_eq_true (by first | (with_reducible assumption) | assumption)) (by first | exact hq73 | (have e_ := (Kd.S_reads' HO_9.out).1; omega))
                                                  obtain ⟨ve73_0, rfl, ge73_0⟩ := hM73
                                                  have hv73 := hcc73 0 _ rfl
                                                  rw [Nat.add_zero, show ((Kd.slice 3 (Kd.int .i64))).sz = 1 from rfl, Nat.mul_one] at hv73
                                                  replace hv73 := Option.some.inj (hv73.symm.trans HX142_0.out)
                                                  subst hv73
                                                  clear hcc73 hcl73
                                                  replace ge73_0 := (show Kd.R (Kd.int .i64) 3 _ _ _ _ (rd_L1 x9_2 x10_1) from ge73_0)
                                                  have HP73 := Kd.R_putg ge73_0 (x11_2 : Int) (wrap64 ((rd (rd_L1 x9_2 x10_1) x11_2) + (rd (rd_L1 x9_2 (ji67)) x11_2)))
                                                  rw [← Ny146.out] at HP73
                                                  have HS73 := hbk73 HP73.2 (fun k_ e_ => by injection e_ with e_; subst e_; exact ge73_0.1 _ rfl) (x' := y146) (Kd.M_row HP73.1)
                                                  rw [← Ny148.out] at HS73
                                                  have HQ73 := Aside0.mk HS73
                                                  clear HP73 HS73 hbk73 hok73
                                                  refine start_ (n := 18) (S := fun w' => w'.cell? ⟨go16, (x10_1).toNat, none⟩ = some (.slice (some ⟨go71, 0, none⟩) (rd_L1 x9_2 x10_1).length c142_0) ∧ w'.cell? ⟨go71, (x11_2).toNat, none⟩ = some (.int .i64 (rd (rd_L1 x9_2 x10_1) x11_2)) ∧ w'.cell? ⟨go16, ((ji67)).toNat, none⟩ = some (.slice (some ad145) (rd_L1 x9_2 (ji67)).length c144_0) ∧ w'.cell? (ad145.add (x11_2).toNat) = some (.int .i64 (rd (rd_L1 x9_2 (ji67)) x11_2))) (ds := [17]) #[false, false, false, false, false, false, false, false, false, false, false, false, false, false, false, false, false, false] (by kernel_rfl) rfl rfl ⟨hx142_0, hx143_0, hx144_0, hx145_0⟩ (fun hHeld => ?_); refine with_tabW spec_baRest.tab13 spec_baRest.bits13 (fun HT_ HW_ => ?_)
                                                  generalize wr.drew = w72 at HO_9 HB GG71 HL142_0 HL144_0 HQ73 HR142_0 HR144_0 HX142_0 HX144_0 hf71_0 hx142_0 hx143_0 hx144_0 hx145_0 hx71_0 hHeld ⊢
                                                  refine pure_ (i := 0) (N := some 70) (v := ?_) (a' := ?_) #[true, false, false, false, false, false, false, false, false, false, false, false, false, false, false, false, false, false] rfl rfl (any_of HT_.out (by kernel_rfl)) (fun _ _ _ h => h) (Or.inl ⟨by rfl, ?_⟩) ?_ ?_
                                                  rotate_left
                                                  · intro w'
                                                    go_simp
                                                    with_reducible rfl
                                                  rotate_left
                                                  · simp only [Act.put, List.setIfInBounds_toArray, List.set_cons_zero, List.set_cons_succ, i64_w, i32_w]
                                                    rfl
                                                  refine pure_ (i := 1) (N := some 71) (v := ?_) (a' := ?_) #[true, true, false, false, false, false, false, false, false, false, false, false, false, false, false, false, false, false] rfl rfl (any_of HT_.out (by kernel_rfl)) (fun _ _ _ h => h) (Or.inl ⟨by rfl, ?_⟩) ?_ ?_
                                                  rotate_left
                                                  · intro w'
                                                    go_simp
                                                    with_reducible rfl
                                                  rotate_left
                                                  · simp only [Act.put, List.setIfInBounds_toArray, List.set_cons_zero, List.set_cons_succ, i64_w, i32_w]
                                                    rfl
                                                  refine pure_ (i := 2) (N := some 72) (v := ?_) (a' := ?_) #[true, true, true, false, false, false, false, false, false, false, false, false, false, false, false, false, false, false] rfl rfl (any_of HT_.out (by kernel_rfl)) (fun _ _ _ h => h) (Or.inl ⟨by rfl, ?_⟩) ?_ ?_
                                                  rotate_left
                                                  · intro w'
                                                    go_simp
                                                    with_reducible rfl
                                                  rotate_left
                                                  · simp only [Act.put, List.setIfInBounds_toArray, List.set_cons_zero, List.set_cons_succ, i64_w, i32_w]
                                                    rfl
                                                  refine pure_ (i := 4) (N := some 74) (v := ?_) (a' := ?_) #[true, true, true, false, true, false, false, false, false, false, false, false, false, false, false, false, false, false] rfl rfl (any_of HT_.out (by kernel_rfl)) (fun _ _ _ h => h) (Or.inl ⟨by rfl, ?_⟩) ?_ ?_
                                                  rotate_left
                                                  · intro w'
                                                    go_simp
                                                    with_reducible rfl
                                                  rotate_left
                                                  · simp only [Act.put, List.setIfInBounds_toArray, List.set_cons_zero, List.set_cons_succ, i64_w, i32_w]
                                                    rfl
                                                  refine pure_ (i := 7) (N := some 77) (v := ?_) (a' := ?_) #[true, true, true, false, true, false, false, true, false, false, false, false, false, false, false, false, false, false] rfl rfl (any_of HT_.out (by kernel_rfl)) (fun _ _ _ h => h) (Or.inl ⟨by rfl, ?_⟩) ?_ ?_
                                                  rotate_left
                                                  · intro w'
                                                    go_simp
                                                    with_reducible rfl
                                                  rotate_left
                                                  · simp only [Act.put, List.setIfInBounds_toArray, List.set_cons_zero, List.set_cons_succ, i64_w, i32_w]
                                                    rfl
                                                  refine pure_ (i := 8) (N := some 78) (v := ?_) (a' := ?_) #[true, true, true, false, true, false, false, true, true, false, false, false, false, false, false, false, false, false] rfl rfl (any_of HT_.out (by kernel_rfl)) (fun _ _ _ h => h) (Or.inl ⟨by rfl, ?_⟩) ?_ ?_
                                                  rotate_left
                                                  · intro w'
                                                    go_simp
                                                    with_reducible rfl
                                                  rotate_left
                                                  · simp only [Act.put, List.setIfInBounds_toArray, List.set_cons_zero, List.set_cons_succ, i64_w, i32_w]
                                                    rfl
                                                  refine pure_ (i := 9) (N := some 79) (v := ?_) (a' := ?_) #[true, true, true, false, true, false, false, true, true, true, false, false, false, false, false, false, false, false] rfl rfl (any_of HT_.out (by kernel_rfl)) (fun _ _ _ h => h) (Or.inl ⟨by rfl, ?_⟩) ?_ ?_
                                                  rotate_left
                                                  · intro w'
                                                    go_simp
                                                    with_reducible rfl
                                                  rotate_left
                                                  · simp only [Act.put, List.setIfInBounds_toArray, List.set_cons_zero, List.set_cons_succ, i64_w, i32_w]
                                                    rfl
                                                  refine pure_ (i := 10) (N := some 80) (v := ?_) (a' := ?_) #[true, true, true, false, true, false, false, true, true, true, true, false, false, false, false, false, false, false] rfl rfl (any_of HT_.out (by kernel_rfl)) (fun _ _ _ h => h) (Or.inl ⟨by rfl, ?_⟩) ?_ ?_
                                                  rotate_left
                                                  · intro w'
                                                    go_simp
                                                    with_reducible rfl
                                                  rotate_left
                                                  · simp only [Act.put, List.setIfInBounds_toArray, List.set_cons_zero, List.set_cons_succ, i64_w, i32_w]
                                                    rfl
                                                  refine pure_ (i := 12) (N := some 82) (v := ?_) (a' := ?_) #[true, true, true, false, true, false, false, true, true, true, true, false, true, false, false, false, false, false] rfl rfl (any_of HT_.out (by kernel_rfl)) (fun _ _ _ h => h) (Or.inl ⟨by rfl, ?_⟩) ?_ ?_
                                                  rotate_left
                                                  · intro w'
                                                    go_simp
                                                    with_reducible rfl
                                                  rotate_left
                                                  · simp only [Act.put, List.setIfInBounds_toArray, List.set_cons_zero, List.set_cons_succ, i64_w, i32_w]
                                                    rfl
                                                  refine take_ (i := 3) (N := some 73) (v := ?_) (a' := ?_) #[true, true, true, true, true, false, false, true, true, true, true, false, true, false, false, false, false, false] rfl rfl (take_ofW HT_.out HW_.out (by kernel_rfl)) (fun _ _ _ h => h) (Or.inl ⟨by rfl, ?_⟩) hHeld ?_ ?_
                                                  rotate_left
                                                  · rintro w' ⟨s0, s1, s2, s3⟩
                                                    go_simp
                                                    with_reducible rfl
                                                  rotate_left
                                                  · simp only [Act.put, List.setIfInBounds_toArray, List.set_cons_zero, List.set_cons_succ, i64_w, i32_w]
                                                    rfl
                                                  refine pure_ (i := 5) (N := some 75) (v := ?_) (a' := ?_) #[true, true, true, true, true, true, false, true, true, true, true, false, true, false, false, false, false, false] rfl rfl (any_of HT_.out (by kernel_rfl)) (fun _ _ _ h => h) (Or.inl ⟨by rfl, ?_⟩) ?_ ?_
                                                  rotate_left
                                                  · intro w'
                                                    go_simp
                                                    with_reducible rfl
                                                  rotate_left
                                                  · simp only [Act.put, List.setIfInBounds_toArray, List.set_cons_zero, List.set_cons_succ, i64_w, i32_w]
                                                    rfl
                                                  refine take_ (i := 6) (N := some 76) (v := ?_) (a' := ?_) #[true, true, true, true, true, true, true, true, true, true, true, false, true, false, false, false, false, false] rfl rfl (take_ofW HT_.out HW_.out (by kernel_rfl)) (fun _ _ _ h => h) (Or.inl ⟨by rfl, ?_⟩) hHeld ?_ ?_
                                                  rotate_left
                                                  · rintro w' ⟨s0, s1, s2, s3⟩
                                                    go_simp
                                                    with_reducible rfl
                                                  rotate_left
                                                  · simp only [Act.put, List.setIfInBounds_toArray, List.set_cons_zero, List.set_cons_succ, i64_w, i32_w]
                                                    rfl
                                                  refine take_ (i := 11) (N := some 81) (v := ?_) (a' := ?_) #[true, true, true, true, true, true, true, true, true, true, true, true, true, false, false, false, false, false] rfl rfl (take_ofW HT_.out HW_.out (by kernel_rfl)) (fun _ _ _ h => h) (Or.inl ⟨by rfl, ?_⟩) hHeld ?_ ?_
                                                  rotate_left
                                                  · rintro w' ⟨s0, s1, s2, s3⟩
                                                    go_simp
                                                    with_reducible rfl
                                                  rotate_left
                                                  · simp only [Act.put, List.setIfInBounds_toArray, List.set_cons_zero, List.set_cons_succ, i64_w, i32_w]
                                                    rfl
                                                  refine pure_ (i := 13) (N := some 83) (v := ?_) (a' := ?_) #[true, true, true, true, true, true, true, true, true, true, true, true, true, true, false, false, false, false] rfl rfl (any_of HT_.out (by kernel_rfl)) (fun _ _ _ h => h) (Or.inl ⟨by rfl, ?_⟩) ?_ ?_
                                                  rotate_left
                                                  · intro w'
                                                    go_simp
                                                    with_reducible rfl
                                                  rotate_left
                                                  · simp only [Act.put, List.setIfInBounds_toArray, List.set_cons_zero, List.set_cons_succ, i64_w, i32_w]
                                                    rfl
                                                  refine take_ (i := 14) (N := some 84) (v := ?_) (a' := ?_) #[true, true, true, true, true, true, true, true, true, true, true, true, true, true, true, false, false, false] rfl rfl (take_ofW HT_.out HW_.out (by kernel_rfl)) (fun _ _ _ h => h) (Or.inl ⟨by rfl, ?_⟩) hHeld ?_ ?_
                                                  rotate_left
                                                  · rintro w' ⟨s0, s1, s2, s3⟩
                                                    go_simp
                                                    with_reducible rfl
                                                  rotate_left
                                                  · simp only [Act.put, List.setIfInBounds_toArray, List.set_cons_zero, List.set_cons_succ, i64_w, i32_w]
                                                    rfl
                                                  refine pure_ (i := 15) (N := some 85) (v := ?_) (a' := ?_) #[true, true, true, true, true, true, true, true, true, true, true, true, true, true, true, true, false, false] rfl rfl (any_of HT_.out (by kernel_rfl)) (fun _ _ _ h => h) (Or.inl ⟨by rfl, ?_⟩) ?_ ?_
                                                  rotate_left
                                                  · intro w'
                                                    go_simp
                                                    with_reducible rfl
                                                  rotate_left
                                                  · simp only [Act.put, List.setIfInBounds_toArray, List.set_cons_zero, List.set_cons_succ, i64_w, i32_w]
                                                    rfl
                                                  refine pure_ (i := 16) (N := some 86) (v := ?_) (a' := ?_) #[true, true, true, true, true, true, true, true, true, true, true, true, true, true, true, true, true, false] rfl rfl (any_of HT_.out (by kernel_rfl)) (fun _ _ _ h => h) (Or.inl ⟨by rfl, ?_⟩) ?_ ?_
                                                  rotate_left
                                                  · intro w'
                                                    go_simp
                                                    with_reducible rfl
                                                  rotate_left
                                                  · simp only [Act.put, List.setIfInBounds_toArray, List.set_cons_zero, List.set_cons_succ, i64_w, i32_w]
                                                    rfl
                                                  refine last_ (i := 17) (N := none) #[true, true, true, true, true, true, true, true, true, true, true, true, true, true, true, true, true, true] rfl rfl (one_of HT_.out (by kernel_rfl)) (by decide) (fun K hK => ?_)
                                                  refine skip_ (w1 := ?_) (by rfl) rfl ?_ ?_
                                                  rotate_left
                                                  · go_simp
                                                    rfl
                                                  refine hK.out _ _ ?_
                                                  clear hK K
                                                  refine done_ (done_of HT_.out (by kernel_rfl)) ?_
                                                  try go_wp2
                                                  (try simp only [← hl9_2])
                                                  go_roundg k2
                                                  case measure => have := HK1.out; have := HK2.out; omega
                                                  case rel => exact ⟨(y148), (wrap64 (x11_2 + 1)), (by first | rfl | (simp; done) | (simp [*]; done)), H', ⟨by have := HK1.out; have := HK2.out; omega⟩, ⟨by (try simp only [hl9_2]); (with_reducible repeat (first | apply Kd.S_alloc | apply Kd.S_drewN | apply Kd.S_drew)); exact HQ73.out⟩, ⟨by repeat (first | (with_reducible first | exact HB.out | apply below_alloc | apply pw_below_drewN | apply below_drew1 | refine below_set ?_ GB71.out) | exact HB.out)⟩⟩
                                                · rw [if_neg c70] at H
                                                  exact absurd H (by simp)
                                              · rw [if_neg c69] at H
                                                exact absurd H (by simp)
                                            · rw [if_neg c68] at H
                                              exact absurd H (by simp)
                                          · rw [if_neg c66] at H
                                            exact absurd H (by simp)
                                        · rw [if_neg c65] at H
                                          exact absurd H (by simp)
                                      · rw [if_neg c64] at H
                                        exact absurd H (by simp)
                                    · rw [if_neg c63] at H
                                      exact absurd H (by simp)
                                  · rw [if_neg c62] at H
                                    have c62b0 : decide (0 ≤ (wrap64 ((wrap64 ((wrap64 (a3 + (wrap64 (a0 - x11_2)))) - (wrap64 (a2 * (wrap64 (a1 - x10_1)))))) - a2))) = false := decide_eq_false c62
                                    clear c62
                                    have H' := Aside0.mk H
                                    clear H
                                    go_wp2
                                    (try simp only [← hl9_2])
                                    go_roundg k2
                                    case measure => have := HK1.out; have := HK2.out; omega
                                    case rel => exact ⟨(x9_2), (wrap64 (x11_2 + 1)), (by first | rfl | (simp; done) | (simp [*]; done)), H', ⟨by have := HK1.out; have := HK2.out; omega⟩, ⟨by (try simp only [hl9_2]); (with_reducible repeat (first | apply Kd.S_alloc | apply Kd.S_drewN | apply Kd.S_drew)); exact HO_9.out⟩, ⟨by repeat (first | (with_reducible first | exact HB.out | apply below_alloc | apply pw_below_drewN | apply below_drew1) | exact HB.out)⟩⟩
                                · rw [if_neg c61] at H
                                  have c61b0 : decide (0 < x10_1) = false := decide_eq_false c61
                                  clear c61
                                  have H' := Aside0.mk H
                                  clear H
                                  go_wp2
                                  (try simp only [← hl9_2])
                                  go_roundg k2
                                  case measure => have := HK1.out; have := HK2.out; omega
                                  case rel => exact ⟨(x9_2), (wrap64 (x11_2 + 1)), (by first | rfl | (simp; done) | (simp [*]; done)), H', ⟨by have := HK1.out; have := HK2.out; omega⟩, ⟨by (try simp only [hl9_2]); (with_reducible repeat (first | apply Kd.S_alloc | apply Kd.S_drewN | apply Kd.S_drew)); exact HO_9.out⟩, ⟨by repeat (first | (with_reducible first | exact HB.out | apply below_alloc | apply pw_below_drewN | apply below_drew1) | exact HB.out)⟩⟩
                        · rw [if_neg c21] at H
                          have c21b0 : decide (x11_2 ≤ a0) = false := decide_eq_false c21
                          clear c21
                          have H' := Aside0.mk H
                          clear H
                          go_wp2
                          (try simp only [← hl9_2])
                          go_roundg k2
                          case measure => have := HK1.out; have := HK2.out; omega
                          case rel => exact ⟨(x9_2), (wrap64 (x10_1 + 1)), (by first | rfl | (simp; done) | (simp [*]; done)), H', ⟨by have := HK1.out; have := HK2.out; omega⟩, ⟨by (try simp only [hl9_2]); (with_reducible repeat (first | apply Kd.S_alloc | apply Kd.S_drewN | apply Kd.S_drew)); exact HO_9.out⟩, ⟨by repeat (first | (with_reducible first | exact HB.out | apply below_alloc | apply pw_below_drewN | apply below_drew1) | exact HB.out)⟩⟩
                  · rw [if_neg c15] at H
                    exact absurd H (by simp)
                · rw [if_neg c14] at H
                  exact absurd H (by simp)
              · rw [if_neg c13] at H
                exact absurd H (by simp)
            · rw [if_neg c12] at H
              exact absurd H (by simp)
          · rw [if_neg c10] at H
            have c10b0 : decide (x10_1 ≤ a1) = false := decide_eq_false c10
            clear c10
            by_cases c75 : 0 ≤ a1
            · rw [if_pos c75] at H
              have c75b0 : decide (0 ≤ a1) = true := decide_eq_true c75
              clear c75
              by_cases c76 : a1 < (x9_1.length : Int)
              · rw [if_pos c76] at H
                have c76b0 : decide (a1 < (x9_1.length : Int)) = true := decide_eq_true c76
                (try (have c76b79_2 := c76b0; rw [hl9_2] at c76b79_2))
                clear c76
                by_cases c77 : 0 ≤ a0
                · rw [if_pos c77] at H
                  have c77b0 : decide (0 ≤ a0) = true := decide_eq_true c77
                  clear c77
                  by_cases c78 : a0 < ((rd_L1 x9_1 a1).length : Int)
                  · rw [if_pos c78] at H
                    have c78b0 : decide (a0 < ((rd_L1 x9_1 a1).length : Int)) = true := decide_eq_true c78
                    clear c78
                    obtain rfl := Option.some.inj H
                    obtain ⟨Ao79, co79, eo79⟩ := Kd.S_slice HO_9.out
                    subst eo79
                    have p118 : 0 ≤ (a1 : Int) := of_decide_eq_true (by first | (with_reducible assumption) | assumption)
                    have q118 : a1 < (x9_1.length : Int) := of_decide_eq_true (by first | (with_reducible assumption) | assumption)
                    obtain ⟨ad118, A118_0, c118_0, e118, hx118_0, hl118_0, hi118_0⟩ := at_L1 (Kd.S_reads' HO_9.out).2.2 a1 p118 q118
                    cases e118
                    obtain ⟨ce118, hce118, hMe118, hcc118⟩ := Kd.S_get HO_9.out [] a1 p118 (by first | exact q118 | exact of_decide_eq_true (by first | (with_reducible assumption) | assumption) | (have e_ := (Kd.S_reads' HO_9.out).1; omega))
                    obtain ⟨ve118_0, rfl, ge118_0⟩ := hMe118
                    have hv118_0 := hcc118 0 _ rfl
                    rw [Nat.add_zero, show ((Kd.slice 3 (Kd.int .i64))).sz = 1 from rfl, Nat.mul_one] at hv118_0
                    replace hv118_0 := Option.some.inj (hv118_0.symm.trans hx118_0)
                    rw [hv118_0] at ge118_0
                    have HL118_0 := Aside0.mk (show Kd.R (Kd.int .i64) 3 _ _ _ _ (rd_L1 x9_1 a1) from ge118_0)
                    clear hv118_0 ge118_0
                    have HX118_0 := Aside0.mk hx118_0
                    clear hcc118 hce118
                    have HR118_0 := Aside0.mk hi118_0
                    have HC118_0 := Aside0.mk hl118_0
                    clear hi118_0 hl118_0
                    replace p118 := eq_true p118
                    replace q118 := eq_true q118
                    have p119 : 0 ≤ (a0 : Int) := of_decide_eq_true (by first | (with_reducible assumption) | assumption)
                    have q119 : a0 < ((rd_L1 x9_1 a1).length : Int) := of_decide_eq_true (by first | (with_reducible assumption) | assumption)
                    obtain ⟨ad119, e119, hx119_0⟩ := Kd.at_int (by repeat (first | (with_reducible exact HR118_0.out) | (with_reducible refine Kd.C_alloc ?_ _) | (with_reducible refine Kd.C_drewN ?_ _) | (with_reducible refine Kd.C_drew ?_) | exact HR118_0.out)) a0 p119 q119
                    cases e119
                    replace p119 := eq_true p119
                    replace q119 := eq_true q119
                    go_wp2
                    go_ret
                    exact ⟨by first | rfl | (simp [errW_none, errW_some] <;> rfl) | (simp only [← hji5]; first | rfl | (simp [errW_none, errW_some] <;> rfl)) | (simp [*, errW_none, errW_some] <;> rfl), by repeat (first | (with_reducible first | exact HB.out | apply below_alloc | apply pw_below_drewN | apply below_drew1) | exact HB.out)⟩
                  · rw [if_neg c78] at H
                    exact absurd H (by simp)
                · rw [if_neg c77] at H
                  exact absurd H (by simp)
              · rw [if_neg c76] at H
                exact absurd H (by simp)
            · rw [if_neg c75] at H
              exact absurd H (by simp)
    · rw [if_neg c7] at H
      exact absurd H (by simp)
  · rw [if_neg c6] at H
    exact absurd H (by simp)

end Go.Proofs.Ytblofikjcmjaeaa.PFnExactNeverBehindOfRank
