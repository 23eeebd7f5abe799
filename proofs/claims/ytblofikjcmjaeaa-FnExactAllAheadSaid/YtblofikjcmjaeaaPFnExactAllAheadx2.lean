/- The walk of the statement FnExactAllAhead: each Go function that it reaches does what the Lean function of its name says; printed by a program of this session. -/
import Derived.Test.YtblofikjcmjaeaaPFnExactAllAheadx0
import Derived.Test.YtblofikjcmjaeaaPFnExactAllAheadx1
namespace Go.Proofs.Ytblofikjcmjaeaa.PFnExactAllAhead
open Go.RowKit Go.Proofs.YtblofikjcmjaeaaW.PrintWords Go.Proofs.YtblofikjcmjaeaaW.PrintLast Go.Proofs.YtblofikjcmjaeaaW.PrintMore
attribute [local go_sem] max2_int min2_int max_two min_two max_three min_three max_four min_four   -- for this text's walks alone
set_option linter.unusedVariables false
set_option linter.unusedSimpArgs false

/-! ### spec_paChoose: function 51 -/
mutual
def spec_paChoose.j0 : Nat → Int → Int → Bool → Option (Int)
  | 0, _, _, _ => none
  | k + 1, x0, x1, x14 => if x14 = true then (some 0) else (if 0 ≤ (wrap64 (x1 + 1)) then (if (wrap64 (x1 + 1) : Int).toNat ≤ 35184372088832 then ((some (List.replicate (wrap64 (x1 + 1) : Int).toNat 0 : List Int)).bind fun y114 => (if 0 < (y114.length : Int) then (spec_paChoose.l0 k x0 x1 (y114.set (0 : Int).toNat 1) 1) else (none))) else (none)) else (none))
def spec_paChoose.l0 : Nat → Int → Int → List Int → Int → Option (Int)
  | 0, _, _, _, _ => none
  | k + 1, x0, x1, x5, x6 => if x6 ≤ x0 then ((spec_l1Least.f x6 x1).bind fun t119 => (spec_paChoose.l1 k x0 x1 x5 x6 t119)) else (if 0 ≤ x1 then (if x1 < (x5.length : Int) then (some (rd x5 x1)) else (none)) else (none))
def spec_paChoose.l1 : Nat → Int → Int → List Int → Int → Int → Option (Int)
  | 0, _, _, _, _, _ => none
  | k + 1, x0, x1, x5, x6, x7 => if x7 > 0 then (if 0 ≤ x7 then (if x7 < (x5.length : Int) then (if 0 ≤ (wrap64 (x7 - 1)) then (if (wrap64 (x7 - 1)) < (x5.length : Int) then (spec_paChoose.l1 k x0 x1 (x5.set (x7 : Int).toNat (wrap64 ((rd x5 x7) + (rd x5 (wrap64 (x7 - 1)))))) x6 (wrap64 (x7 - 1))) else (none)) else (none)) else (none)) else (none)) else (spec_paChoose.l0 k x0 x1 x5 (wrap64 (x6 + 1)))
end
def spec_paChoose.f (k : Nat) (a0 : Int) (a1 : Int) : Option (Int) := if a1 < 0 then (spec_paChoose.j0 k a0 a1 true) else (spec_paChoose.j0 k a0 a1 (decide (a1 > a0)))
theorem spec_paChoose.mono_l : ∀ k, (∀ y0 y1 y2, LeO (spec_paChoose.j0 k y0 y1 y2) (spec_paChoose.j0 (k + 1) y0 y1 y2)) ∧ (∀ y0 y1 y2 y3, LeO (spec_paChoose.l0 k y0 y1 y2 y3) (spec_paChoose.l0 (k + 1) y0 y1 y2 y3)) ∧ (∀ y0 y1 y2 y3 y4, LeO (spec_paChoose.l1 k y0 y1 y2 y3 y4) (spec_paChoose.l1 (k + 1) y0 y1 y2 y3 y4))
  | 0 => ⟨fun _ _ _ r h => by simp [spec_paChoose.j0] at h, fun _ _ _ _ r h => by simp [spec_paChoose.l0] at h, fun _ _ _ _ _ r h => by simp [spec_paChoose.l1] at h⟩
  | k + 1 => by
    obtain ⟨ih0, ih1, ih2⟩ := spec_paChoose.mono_l k
    refine ⟨?_, ?_, ?_⟩
    · intro y0 y1 y2
      unfold spec_paChoose.j0
      repeat' first
      | (with_reducible exact ih0 _ _ _)
      | (with_reducible exact ih1 _ _ _ _)
      | (with_reducible exact ih2 _ _ _ _ _)
      | (with_reducible exact LeO.refl _)
      | (with_reducible exact LeO.none _)
      | (with_reducible refine LeO.ite ?_ ?_)
      | (with_reducible refine LeO.bind ?_ (fun _ => ?_))
      | exact ih0 _ _ _
      | exact ih1 _ _ _ _
      | exact ih2 _ _ _ _ _
      | exact LeO.none _
      | refine LeO.ite ?_ ?_
      | refine LeO.bind ?_ (fun _ => ?_)
    · intro y0 y1 y2 y3
      unfold spec_paChoose.l0
      repeat' first
      | (with_reducible exact ih0 _ _ _)
      | (with_reducible exact ih1 _ _ _ _)
      | (with_reducible exact ih2 _ _ _ _ _)
      | (with_reducible exact LeO.refl _)
      | (with_reducible exact LeO.none _)
      | (with_reducible refine LeO.ite ?_ ?_)
      | (with_reducible refine LeO.bind ?_ (fun _ => ?_))
      | exact ih0 _ _ _
      | exact ih1 _ _ _ _
      | exact ih2 _ _ _ _ _
      | exact LeO.none _
      | refine LeO.ite ?_ ?_
      | refine LeO.bind ?_ (fun _ => ?_)
    · intro y0 y1 y2 y3 y4
      unfold spec_paChoose.l1
      repeat' first
      | (with_reducible exact ih0 _ _ _)
      | (with_reducible exact ih1 _ _ _ _)
      | (with_reducible exact ih2 _ _ _ _ _)
      | (with_reducible exact LeO.refl _)
      | (with_reducible exact LeO.none _)
      | (with_reducible refine LeO.ite ?_ ?_)
      | (with_reducible refine LeO.bind ?_ (fun _ => ?_))
      | exact ih0 _ _ _
      | exact ih1 _ _ _ _
      | exact ih2 _ _ _ _ _
      | exact LeO.none _
      | refine LeO.ite ?_ ?_
      | refine LeO.bind ?_ (fun _ => ?_)
theorem spec_paChoose.mono : ∀ a0 a1 k, LeO (spec_paChoose.f k a0 a1) (spec_paChoose.f (k + 1) a0 a1) := by
  intro a0 a1 k
  obtain ⟨ih0, ih1, ih2⟩ := spec_paChoose.mono_l k
  unfold spec_paChoose.f
  repeat' first
      | (with_reducible exact ih0 _ _ _)
      | (with_reducible exact ih1 _ _ _ _)
      | (with_reducible exact ih2 _ _ _ _ _)
      | (with_reducible exact LeO.refl _)
      | (with_reducible exact LeO.none _)
      | (with_reducible refine LeO.ite ?_ ?_)
      | (with_reducible refine LeO.bind ?_ (fun _ => ?_))
      | exact ih0 _ _ _
      | exact ih1 _ _ _ _
      | exact ih2 _ _ _ _ _
      | exact LeO.none _
      | refine LeO.ite ?_ ?_
      | refine LeO.bind ?_ (fun _ => ?_)
def spec_paChoose.T11 : Bool × List (List Nat × List Nat) := (true, [([], []), ([], []), ([0, 1], [0, 1]), ([2], [2]), ([], []), ([], []), ([5], [5]), ([4, 6], [4, 6]), ([7], [7]), ([3, 8], [3, 8]), ([0, 1, 0, 1, 2, 3, 4, 5, 6, 7, 8, 9], [0, 1]), ([10, 9, 0, 1, 2, 3, 4, 5, 6, 7, 8, 9], [9, 10])])
def spec_paChoose.B11 : List Nat := [0, 0, 3, 7, 0, 0, 32, 112, 240, 511, 1023, 2047]
theorem spec_paChoose.tab11 : rtab .any (opsOf Try.f51 11) = spec_paChoose.T11 := by kernel_rfl
theorem spec_paChoose.bits11 : waitsOk spec_paChoose.T11.2 spec_paChoose.B11 = true := by kernel_rfl
set_option maxHeartbeats 8000000 in
set_option maxRecDepth 100000 in
theorem spec_paChoose.calls (k : Nat) (a0 : Int) (a1 : Int) (r : Int) (w : World) (h : spec_paChoose.f k a0 a1 = some r) :
    Calls Try.prog 51 #[.int .i64 a0, .int .i64 a1] w fun e w' => e = .returned (.int .i64 r) ∧ Below w.heap.size w w' := by
  have HB := Aside0.mk (Below.refl w.heap.size w)
  have H : (if a1 < 0 then (spec_paChoose.j0 k a0 a1 true) else (spec_paChoose.j0 k a0 a1 (decide (a1 > a0)))) = some r := h
  clear h
  have HC3 := Aside0.mk H
  clear H
  go_enter Try.func51, Try.ntmps51
  go_upto_region 1 with (fail)
  go_cut [14] (fun v14 wc => ∃ (kq : Nat) (x14_2 : Bool), v14 = .bool x14_2 ∧ Aside0 (spec_paChoose.j0 kq a0 a1 x14_2 = some r) ∧ Aside0 (kq ≤ k) ∧ Aside0 (Below w.heap.size w wc))
  case first =>
    have H := HC3.out
    clear HC3
    by_cases c4 : a1 < 0
    · rw [if_pos c4] at H
      have c4b0 : decide (a1 < 0) = true := decide_eq_true c4
      clear c4
      (first | rw [c4b0] | (simp only [i64_w, i32_w]; rw [c4b0]) | skip)
      have H' := Aside0.mk H
      clear H
      go_wp2
      go_meet
      case rel => exact ⟨_, (true), (by first | rfl | (simp; done) | (simp [*]; done)), H', ⟨by first | omega | exact Nat.le_refl _⟩, ⟨by repeat (first | (with_reducible first | exact HB.out | apply below_alloc | apply pw_below_drewN | apply below_drew1) | exact HB.out)⟩⟩
    · rw [if_neg c4] at H
      have c4b0 : decide (a1 < 0) = false := decide_eq_false c4
      clear c4
      (first | rw [c4b0] | (simp only [i64_w, i32_w]; rw [c4b0]) | skip)
      have H' := Aside0.mk H
      clear H
      go_wp2
      go_meet
      case rel => exact ⟨_, (decide (a1 > a0)), (by first | rfl | (simp; done) | (simp [*]; done)), H', ⟨by first | omega | exact Nat.le_refl _⟩, ⟨by repeat (first | (with_reducible first | exact HB.out | apply below_alloc | apply pw_below_drewN | apply below_drew1) | exact HB.out)⟩⟩
  case rest =>
    clear HC3
    try clear p2
    try clear c4
    try clear c4b0
    obtain ⟨kq, x14_2, rfl, HA, HJ2, HB⟩ := hcut
    cases kq with
    | zero => exact absurd HA.out (by simp [spec_paChoose.j0])
    | succ kj2 =>
      have H := HA.out
      clear HA
      simp only [spec_paChoose.j0] at H
      by_cases c5 : x14_2 = true
      · subst c5
        have H1 : (some 0) = some r := by rw [if_pos rfl] at H; exact H
        clear H
        have H := H1
        clear H1
        obtain rfl := Option.some.inj H
        go_wp2
        go_ret
        exact ⟨by first | rfl | (simp [errW_none, errW_some] <;> rfl) | (simp [*, errW_none, errW_some] <;> rfl), by repeat (first | (with_reducible first | exact HB.out | apply below_alloc | apply pw_below_drewN | apply below_drew1) | exact HB.out)⟩
      · replace c5 := Bool.eq_false_iff.mpr c5
        subst c5
        have H1 : (if 0 ≤ (wrap64 (a1 + 1)) then (if (wrap64 (a1 + 1) : Int).toNat ≤ 35184372088832 then ((some (List.replicate (wrap64 (a1 + 1) : Int).toNat 0 : List Int)).bind fun y114 => (if 0 < (y114.length : Int) then (spec_paChoose.l0 kj2 a0 a1 (y114.set (0 : Int).toNat 1) 1) else (none))) else (none)) else (none)) = some r := by rw [if_neg (show ¬ (false = true) by decide)] at H; exact H
        clear H
        have H := H1
        clear H1
        obtain ⟨ji6, hji6⟩ : ∃ j_ : Int, (wrap64 (a1 + 1)) = j_ := ⟨_, rfl⟩
        replace H : (if 0 ≤ (ji6) then (if (ji6 : Int).toNat ≤ 35184372088832 then ((some (List.replicate (ji6 : Int).toNat 0 : List Int)).bind fun y114 => (if 0 < (y114.length : Int) then (spec_paChoose.l0 kj2 a0 a1 (y114.set (0 : Int).toNat 1) 1) else (none))) else (none)) else (none)) = some r := by first | (rw [hji6] at H; exact H) | (simp only [hji6] at H ⊢; exact H)
        have hji6w : (IntKind.i64.wrap (a1 + 1)) = ji6 := (i64_w _).trans hji6
        by_cases c7 : 0 ≤ (ji6)
        · rw [if_pos c7] at H
          have c7b0 := eq_true c7
          have c7b1 : decide (0 ≤ (ji6)) = true := decide_eq_true c7
          clear c7
          by_cases c8 : (ji6 : Int).toNat ≤ 35184372088832
          · rw [if_pos c8] at H
            have c8b0 := eq_true c8
            have c8b1 : decide ((ji6 : Int).toNat ≤ 35184372088832) = true := decide_eq_true c8
            clear c8
            obtain ⟨y114, hy114⟩ : ∃ y_ : List Int, y_ = (List.replicate (ji6 : Int).toNat 0) := ⟨_, rfl⟩
            replace H : (if 0 < (y114.length : Int) then (spec_paChoose.l0 kj2 a0 a1 (y114.set (0 : Int).toNat 1) 1) else (none)) = some r := by first | (rw [hy114]; with_reducible exact H) | (have H2_ := (Option.bind_some _ _).symm.trans H; rw [hy114]; with_reducible exact H2_) | (have H2_ := (Option.bind_some _ _).symm.trans H; with_reducible exact H2_) | with_reducible exact H | (rw [hy114]; exact H) | exact H
            have Ny114 := Aside0.mk hy114
            clear hy114
            by_cases c9 : 0 < (y114.length : Int)
            · rw [if_pos c9] at H
              have c9b0 : decide (0 < (y114.length : Int)) = true := decide_eq_true c9
              have c9b1 : decide (0 < y114.length) = true := decide_eq_true (by omega)
              clear c9
              obtain ⟨y117, hy117⟩ : ∃ y_ : List Int, y_ = (y114.set (0 : Int).toNat 1) := ⟨_, rfl⟩
              replace H : (spec_paChoose.l0 kj2 a0 a1 y117 1) = some r := by first | (rw [hy117]; with_reducible exact H) | (have H2_ := (Option.bind_some _ _).symm.trans H; rw [hy117]; with_reducible exact H2_) | (have H2_ := (Option.bind_some _ _).symm.trans H; with_reducible exact H2_) | with_reducible exact H | (rw [hy117]; exact H) | exact H
              have Ny117 := Aside0.mk hy117
              clear hy117
              have H' := Aside0.mk H
              clear H
              go_wp2_with (first | ((with_reducible refine gate_dst (N := 17) rfl ?_); refine Kd.R_make (Kd.int .i64) _ 3 rfl (N := 17) rfl 28 _ _ rfl ji6 rfl rfl Try.underlying28 (.int .i64 0) 8 info3 rfl (by decide) (by omega) 0 (ok := fun _ => True) (okp := fun _ => True) rfl (fun _ hk => hk) trivial (of_decide_eq_true (by first | (with_reducible assumption) | assumption)) (Nat.le_trans (Nat.mul_le_mul_right _ (of_decide_eq_true (by first | (with_reducible assumption) | assumption) : ji6.toNat ≤ 35184372088832)) (by omega)) (Below.refl _ _) (Nat.le_refl _) ?_; intro v115 w11 ho12 hb hg_ hnew_; clear hg_ hnew_; (first | rw [← Ny114.out] at ho12 | (simp only [Int.reduceToNat] at ho12; rw [← Ny114.out] at ho12)); have n0_ := Aside0.mk (Kd.R_lower ho12 (below_size (by repeat (first | (with_reducible first | exact HB.out | apply below_alloc | apply pw_below_drewN | apply below_drew1) | exact HB.out)))); have n1_ := Aside0.mk (below_step (by repeat (first | (with_reducible first | exact HB.out | apply below_alloc | apply pw_below_drewN | apply below_drew1) | exact HB.out)) hb); clear HB; have HO116 := n0_; have HB := n1_; clear n0_ n1_; clear hb ho12; have p10 : 0 ≤ (0 : Int) := (by omega); have q10 : (0 : Int) < ((y114.length : Int) : Int) := of_decide_eq_true (by first | (with_reducible assumption) | assumption); have qi10 : (0 < y114.length) = True := eq_true (by omega); obtain ⟨go10, co10, eo10, gb10, gl10, cl10, HG10⟩ := Kd.R_form HO116.out (by omega); (first | cases eo10 | (injection eo10 with ea_ en_ ec_; (first | subst ea_ | (injection ea_ with ea_; subst ea_)); subst ec_; clear en_)); have GB10 := Aside0.mk gb10; have GG10 := Aside0.mk HG10; clear gb10 gl10 HG10; obtain ⟨hx10_0, hf10_0⟩ := Kd.R_celln 0 HO116.out (0 : Int) p10 q10; (try rw [show ((0 : Int)).toNat = 0 from rfl] at hx10_0); (try simp only [Nat.reduceMul, Nat.zero_mul, Nat.zero_add, Nat.reduceAdd] at hx10_0); (try rw [show ((0 : Int)).toNat = 0 from rfl] at hf10_0); (try simp only [Nat.reduceMul, Nat.zero_mul, Nat.zero_add, Nat.reduceAdd] at hf10_0); replace p10 := eq_true p10; replace q10 := eq_true q10; obtain ⟨hy13_, hz13_⟩ := Kd.R_celln 0 HO116.out (0 : Int) (by omega) (of_decide_eq_true (by first | (with_reducible assumption) | assumption)); (try simp only [Int.reduceToNat, Int.toNat_zero, Int.toNat_ofNat, Nat.reduceMul, Nat.zero_mul, Nat.zero_add] at hy13_ hz13_); (try rw [show ((0 : Int)).toNat = 0 from rfl] at hy13_); (try rw [show ((0 : Int)).toNat = 0 from rfl] at hz13_); have HP13 := Kd.R_putg HO116.out (0 : Int) 1) | ((with_reducible refine gate_store (t := 3) (p := 19) rfl ?_); refine store_event (t := 3) (p := 19) (v := ?vo_w14) (w1 := (w11.setCell ⟨go10, (0 : Int).toNat, none⟩ (.int .i64 1))) ?hg ?ho ?hn ?hr ?_; (case ho => rfl); (case hg => rfl); (case hn => rfl); (case hr => first | (go_simp; done) | (go_simp; rfl)); intro w14 hw; have hg : w11.grownBy w14 (some go10) := (by rw [hw]; exact HP13.2); have hp_ : Kd.R (Kd.int .i64) 3 w14 w.heap.size (fun _ => True) (.slice (some ⟨go10, 0, none⟩) y114.length co10) y117 := (by rw [hw, Ny117.out]; exact HP13.1); clear HP13; have n0_ := Aside0.mk (hp_); have n1_ := Aside0.mk ((by rw [hw]; exact below_set (HB.out) GB10.out : Below w.heap.size w w14)); clear HO116; clear HB; have HO116 := n0_; have HB := n1_; clear n0_ n1_; clear hg hw hp_))
              go_loopg [6] kj2 (fun kq v6 w' => ∃ (x5_2 : List Int) (x6_2 : Int), v6 = .int .i64 x6_2 ∧ Aside0 (spec_paChoose.l0 kq a0 a1 x5_2 x6_2 = some r) ∧ Aside0 (kq ≤ kj2) ∧ Aside0 (Kd.R (Kd.int .i64) 3 w' w.heap.size (fun _ => True) (.slice (some ⟨go10, 0, none⟩) y114.length co10) x5_2) ∧ Aside0 (Below w.heap.size w w'))
              case atStart => exact ⟨(y117), (1), (by first | rfl | (simp; done) | (simp [*]; done)), H', ⟨Nat.le_refl _⟩, ⟨by (with_reducible repeat (first | apply Kd.R_alloc | apply Kd.R_drewN | apply Kd.R_drew)); (first | exact HO116.out | exact Kd.R_mono HO116.out (fun k_ h_ => by simp only [ownB_] at h_ ⊢; exact h_))⟩, ⟨by repeat (first | (with_reducible first | exact HB.out | apply below_alloc | apply pw_below_drewN | apply below_drew1) | exact HB.out)⟩⟩
              case round =>
                clear H'
                try clear p1
                try clear q1
                try clear hx1
                try clear qi1
                try clear p2
                try clear c4
                try clear c4b0
                try clear c5
                try clear p6
                try clear c7
                try clear c7b0
                try clear c7b1
                try clear c8
                try clear c8b0
                try clear c8b1
                try clear c9
                try clear c9b0
                try clear c9b1
                try clear p10
                try clear q10
                try clear hx10
                try clear qi10
                try clear hf10
                try clear hx10_0
                try clear p10
                try clear p2
                try clear q10
                obtain ⟨x5_2, x6_2, rfl, HA, HK2, HO_5, HB⟩ := hrel
                have hl5_2 := (Kd.R_reads' HO_5.out).1
                rw [hl5_2] at HO_5
                (try simp only [hl5_2])
                cases gk with
                | zero => exact absurd HA.out (by simp [spec_paChoose.l0])
                | succ k2 =>
                  have H := HA.out
                  clear HA
                  simp only [spec_paChoose.l0] at H
                  by_cases c15 : x6_2 ≤ a0
                  · rw [if_pos c15] at H
                    have c15b0 : decide (x6_2 ≤ a0) = true := decide_eq_true c15
                    clear c15
                    replace H := Option.bind_eq_some_iff.mp H
                    obtain ⟨t119, A160, H⟩ := H
                    replace H : (spec_paChoose.l1 k2 a0 a1 x5_2 x6_2 t119) = some r := H
                    have A16 := Aside0.mk A160
                    clear A160
                    have H' := Aside0.mk H
                    clear H
                    go_wp2_with (first | ((with_reducible refine gate_callee (f := 87) rfl ?_); refine goesL_ (some 27) rfl rfl Try.func87 (by kernel_rfl) rfl #[.int .i64 x6_2, .int .i64 a1] rfl (by (try simp only [List.map_toArray, List.map_cons, List.map_nil]); first | done | rfl | (simp only [List.length_drop, List.length_take]; rfl)) ?_; (with_reducible refine (spec_l1Least.calls x6_2 a1 t119 _ A16.out).mono ?_); rintro e w' ⟨rfl, ⟨nd, rfl⟩⟩; refine ⟨_, rfl, ?_⟩))
                    go_loopg [7] k2 (fun kq v7 w' => ∃ (x5_3 : List Int) (x7_3 : Int), v7 = .int .i64 x7_3 ∧ Aside0 (spec_paChoose.l1 kq a0 a1 x5_3 x6_2 x7_3 = some r) ∧ Aside0 (kq ≤ k2) ∧ Aside0 (Kd.R (Kd.int .i64) 3 w' w.heap.size (fun _ => True) (.slice (some ⟨go10, 0, none⟩) x5_2.length co10) x5_3) ∧ Aside0 (Below w.heap.size w w'))
                    case atStart => exact ⟨(x5_2), (t119), (by first | rfl | (simp; done) | (simp [*]; done)), H', ⟨Nat.le_refl _⟩, ⟨by (try simp only [hl5_2]); (with_reducible repeat (first | apply Kd.R_alloc | apply Kd.R_drewN | apply Kd.R_drew)); (first | exact HO_5.out | exact Kd.R_mono HO_5.out (fun k_ h_ => by simp only [ownB_] at h_ ⊢; exact h_))⟩, ⟨by repeat (first | (with_reducible first | exact HB.out | apply below_alloc | apply pw_below_drewN | apply below_drew1) | exact HB.out)⟩⟩
                    case round =>
                      clear H'
                      try clear c1
                      try clear p1
                      try clear q1
                      try clear hx1
                      try clear qi1
                      try clear p2
                      try clear c4
                      try clear c4b0
                      try clear c5
                      try clear p6
                      try clear c7
                      try clear c7b0
                      try clear c7b1
                      try clear c8
                      try clear c8b0
                      try clear c8b1
                      try clear c9
                      try clear c9b0
                      try clear c9b1
                      try clear p10
                      try clear q10
                      try clear hx10
                      try clear qi10
                      try clear hf10
                      try clear c15
                      try clear c15b0
                      try clear hx10_0
                      try clear p1
                      try clear p10
                      try clear p2
                      try clear p6
                      try clear q1
                      try clear q10
                      obtain ⟨x5_3, x7_3, rfl, HA, HK3, HO_5, HB⟩ := hrel
                      have hl5_3 := (Kd.R_reads' HO_5.out).1
                      rw [hl5_3] at HO_5
                      (try simp only [hl5_3])
                      cases gk with
                      | zero => exact absurd HA.out (by simp [spec_paChoose.l1])
                      | succ k3 =>
                        have H := HA.out
                        clear HA
                        simp only [spec_paChoose.l1] at H
                        by_cases c17 : x7_3 > 0
                        · rw [if_pos c17] at H
                          have c17b0 : decide (0 < x7_3) = true := decide_eq_true c17
                          clear c17
                          by_cases c18 : 0 ≤ x7_3
                          · rw [if_pos c18] at H
                            have c18b0 : decide (0 ≤ x7_3) = true := decide_eq_true c18
                            clear c18
                            by_cases c19 : x7_3 < (x5_3.length : Int)
                            · rw [if_pos c19] at H
                              have c19b0 : decide (x7_3 < (x5_3.length : Int)) = true := decide_eq_true c19
                              (try (have c19b75_2 := c19b0; rw [hl5_2] at c19b75_2))
                              (try (have c19b75_3 := c19b0; rw [hl5_3] at c19b75_3))
                              clear c19
                              obtain ⟨ji20, hji20⟩ : ∃ j_ : Int, (wrap64 (x7_3 - 1)) = j_ := ⟨_, rfl⟩
                              replace H : (if 0 ≤ (ji20) then (if (ji20) < (x5_3.length : Int) then (spec_paChoose.l1 k3 a0 a1 (x5_3.set (x7_3 : Int).toNat (wrap64 ((rd x5_3 x7_3) + (rd x5_3 (ji20))))) x6_2 ji20) else (none)) else (none)) = some r := by first | (rw [hji20] at H; exact H) | (simp only [hji20] at H ⊢; exact H)
                              have hji20w : (IntKind.i64.wrap (x7_3 - 1)) = ji20 := (i64_w _).trans hji20
                              by_cases c21 : 0 ≤ (ji20)
                              · rw [if_pos c21] at H
                                have c21b0 : decide (0 ≤ (ji20)) = true := decide_eq_true c21
                                clear c21
                                by_cases c22 : (ji20) < (x5_3.length : Int)
                                · rw [if_pos c22] at H
                                  have c22b0 : decide ((ji20) < (x5_3.length : Int)) = true := decide_eq_true c22
                                  clear c22
                                  obtain ⟨y122, hy122⟩ : ∃ y_ : List Int, y_ = (x5_3.set (x7_3 : Int).toNat (wrap64 ((rd x5_3 x7_3) + (rd x5_3 (ji20))))) := ⟨_, rfl⟩
                                  replace H : (spec_paChoose.l1 k3 a0 a1 y122 x6_2 ji20) = some r := by first | (rw [hy122]; with_reducible exact H) | (have H2_ := (Option.bind_some _ _).symm.trans H; rw [hy122]; with_reducible exact H2_) | (have H2_ := (Option.bind_some _ _).symm.trans H; with_reducible exact H2_) | with_reducible exact H | (rw [hy122]; exact H) | exact H
                                  have Ny122 := Aside0.mk hy122
                                  clear hy122
                                  have H' := Aside0.mk H
                                  clear H
                                  try go_wp2
                                  have n0_ := Aside0.mk (Kd.R_drew HO_5.out)
                                  have n1_ := Aside0.mk (below_drew1 HB.out)
                                  clear HO_5
                                  clear HB
                                  have HO_5 := n0_
                                  have HB := n1_
                                  clear n0_ n1_
                                  have p120 : 0 ≤ (x7_3 : Int) := of_decide_eq_true (by first | (with_reducible assumption) | assumption)
                                  have q120 : x7_3 < (x5_3.length : Int) := of_decide_eq_true (by first | (with_reducible assumption) | assumption)
                                  obtain ⟨ad120, e120, hx120_0⟩ := Kd.at_int (Kd.R_reads' HO_5.out).2.2 x7_3 p120 q120
                                  obtain rfl : (⟨go10, 0, none⟩ : Addr) = ad120 := (by injection e120)
                                  (first | simp only [add_plain] at hx120_0 | simp only [add_at] at hx120_0 | simp only [Addr.add, Nat.zero_add] at hx120_0 | skip)
                                  replace p120 := eq_true p120
                                  replace q120 := eq_true q120
                                  have p121 : 0 ≤ ((ji20) : Int) := of_decide_eq_true (by first | (with_reducible assumption) | assumption)
                                  have q121 : (ji20) < (x5_3.length : Int) := of_decide_eq_true (by first | (with_reducible assumption) | assumption)
                                  obtain ⟨ad121, e121, hx121_0⟩ := Kd.at_int (Kd.R_reads' HO_5.out).2.2 (ji20) p121 q121
                                  obtain rfl : (⟨go10, 0, none⟩ : Addr) = ad121 := (by injection e121)
                                  (first | simp only [add_plain] at hx121_0 | simp only [add_at] at hx121_0 | simp only [Addr.add, Nat.zero_add] at hx121_0 | skip)
                                  replace p121 := eq_true p121
                                  replace q121 := eq_true q121
                                  have p23 : 0 ≤ (x7_3 : Int) := of_decide_eq_true (by first | (with_reducible assumption) | assumption)
                                  have q23 : (x7_3 : Int) < ((x5_3.length : Int) : Int) := of_decide_eq_true (by first | (with_reducible assumption) | assumption)
                                  obtain ⟨hx23_0, hf23_0⟩ := Kd.R_celln 0 HO_5.out (x7_3 : Int) p23 q23
                                  replace p23 := eq_true p23
                                  replace q23 := eq_true q23
                                  have HP25 := Kd.R_putn HO_5.out (x7_3 : Int) (wrap64 ((rd x5_3 x7_3) + (rd x5_3 (ji20))))
                                  rw [← Ny122.out] at HP25
                                  have HQ25 := Aside0.mk HP25
                                  clear HP25
                                  refine start_ (n := 12) (S := fun w' => w'.cell? ⟨go10, (x7_3).toNat, none⟩ = some (.int .i64 (rd x5_3 x7_3)) ∧ w'.cell? ⟨go10, ((ji20)).toNat, none⟩ = some (.int .i64 (rd x5_3 (ji20)))) (ds := [11]) #[false, false, false, false, false, false, false, false, false, false, false, false] (by kernel_rfl) rfl rfl ⟨hx120_0, hx121_0⟩ (fun hHeld => ?_); refine with_tabW spec_paChoose.tab11 spec_paChoose.bits11 (fun HT_ HW_ => ?_)
                                  generalize wr.drew = w24 at HO_5 HB HQ25 hf23_0 hx120_0 hx121_0 hx23_0 hHeld ⊢
                                  refine pure_ (i := 0) (N := some 32) (v := ?_) (a' := ?_) #[true, false, false, false, false, false, false, false, false, false, false, false] rfl rfl (any_of HT_.out (by kernel_rfl)) (fun _ _ _ h => h) (Or.inl ⟨by rfl, ?_⟩) ?_ ?_
                                  rotate_left
                                  · intro w'
                                    go_simp
                                    with_reducible rfl
                                  rotate_left
                                  · simp only [Act.put, List.setIfInBounds_toArray, List.set_cons_zero, List.set_cons_succ, i64_w, i32_w]
                                    rfl
                                  refine pure_ (i := 1) (N := some 33) (v := ?_) (a' := ?_) #[true, true, false, false, false, false, false, false, false, false, false, false] rfl rfl (any_of HT_.out (by kernel_rfl)) (fun _ _ _ h => h) (Or.inl ⟨by rfl, ?_⟩) ?_ ?_
                                  rotate_left
                                  · intro w'
                                    go_simp
                                    with_reducible rfl
                                  rotate_left
                                  · simp only [Act.put, List.setIfInBounds_toArray, List.set_cons_zero, List.set_cons_succ, i64_w, i32_w]
                                    rfl
                                  refine pure_ (i := 2) (N := some 34) (v := ?_) (a' := ?_) #[true, true, true, false, false, false, false, false, false, false, false, false] rfl rfl (any_of HT_.out (by kernel_rfl)) (fun _ _ _ h => h) (Or.inl ⟨by rfl, ?_⟩) ?_ ?_
                                  rotate_left
                                  · intro w'
                                    go_simp
                                    with_reducible rfl
                                  rotate_left
                                  · simp only [Act.put, List.setIfInBounds_toArray, List.set_cons_zero, List.set_cons_succ, i64_w, i32_w]
                                    rfl
                                  refine pure_ (i := 4) (N := some 36) (v := ?_) (a' := ?_) #[true, true, true, false, true, false, false, false, false, false, false, false] rfl rfl (any_of HT_.out (by kernel_rfl)) (fun _ _ _ h => h) (Or.inl ⟨by rfl, ?_⟩) ?_ ?_
                                  rotate_left
                                  · intro w'
                                    go_simp
                                    with_reducible rfl
                                  rotate_left
                                  · simp only [Act.put, List.setIfInBounds_toArray, List.set_cons_zero, List.set_cons_succ, i64_w, i32_w]
                                    rfl
                                  refine pure_ (i := 5) (N := some 37) (v := ?_) (a' := ?_) #[true, true, true, false, true, true, false, false, false, false, false, false] rfl rfl (any_of HT_.out (by kernel_rfl)) (fun _ _ _ h => h) (Or.inl ⟨by rfl, ?_⟩) ?_ ?_
                                  rotate_left
                                  · intro w'
                                    go_simp
                                    with_reducible rfl
                                  rotate_left
                                  · simp only [Act.put, List.setIfInBounds_toArray, List.set_cons_zero, List.set_cons_succ, i64_w, i32_w]
                                    rfl
                                  refine pure_ (i := 6) (N := some 38) (v := ?_) (a' := ?_) #[true, true, true, false, true, true, true, false, false, false, false, false] rfl rfl (any_of HT_.out (by kernel_rfl)) (fun _ _ _ h => h) (Or.inl ⟨by rfl, ?_⟩) ?_ ?_
                                  rotate_left
                                  · intro w'
                                    go_simp
                                    with_reducible rfl
                                  rotate_left
                                  · simp only [Act.put, List.setIfInBounds_toArray, List.set_cons_zero, List.set_cons_succ, i64_w, i32_w]
                                    rfl
                                  refine pure_ (i := 7) (N := some 39) (v := ?_) (a' := ?_) #[true, true, true, false, true, true, true, true, false, false, false, false] rfl rfl (any_of HT_.out (by kernel_rfl)) (fun _ _ _ h => h) (Or.inl ⟨by rfl, ?_⟩) ?_ ?_
                                  rotate_left
                                  · intro w'
                                    go_simp
                                    with_reducible rfl
                                  rotate_left
                                  · simp only [Act.put, List.setIfInBounds_toArray, List.set_cons_zero, List.set_cons_succ, i64_w, i32_w]
                                    rfl
                                  refine take_ (i := 3) (N := some 35) (v := ?_) (a' := ?_) #[true, true, true, true, true, true, true, true, false, false, false, false] rfl rfl (take_ofW HT_.out HW_.out (by kernel_rfl)) (fun _ _ _ h => h) (Or.inl ⟨by rfl, ?_⟩) hHeld ?_ ?_
                                  rotate_left
                                  · rintro w' ⟨s0, s1⟩
                                    go_simp
                                    with_reducible rfl
                                  rotate_left
                                  · simp only [Act.put, List.setIfInBounds_toArray, List.set_cons_zero, List.set_cons_succ, i64_w, i32_w]
                                    rfl
                                  refine take_ (i := 8) (N := some 40) (v := ?_) (a' := ?_) #[true, true, true, true, true, true, true, true, true, false, false, false] rfl rfl (take_ofW HT_.out HW_.out (by kernel_rfl)) (fun _ _ _ h => h) (Or.inl ⟨by rfl, ?_⟩) hHeld ?_ ?_
                                  rotate_left
                                  · rintro w' ⟨s0, s1⟩
                                    go_simp
                                    with_reducible rfl
                                  rotate_left
                                  · simp only [Act.put, List.setIfInBounds_toArray, List.set_cons_zero, List.set_cons_succ, i64_w, i32_w]
                                    rfl
                                  refine pure_ (i := 9) (N := some 41) (v := ?_) (a' := ?_) #[true, true, true, true, true, true, true, true, true, true, false, false] rfl rfl (any_of HT_.out (by kernel_rfl)) (fun _ _ _ h => h) (Or.inl ⟨by rfl, ?_⟩) ?_ ?_
                                  rotate_left
                                  · intro w'
                                    go_simp
                                    with_reducible rfl
                                  rotate_left
                                  · simp only [Act.put, List.setIfInBounds_toArray, List.set_cons_zero, List.set_cons_succ, i64_w, i32_w]
                                    rfl
                                  refine pure_ (i := 10) (N := some 42) (v := ?_) (a' := ?_) #[true, true, true, true, true, true, true, true, true, true, true, false] rfl rfl (any_of HT_.out (by kernel_rfl)) (fun _ _ _ h => h) (Or.inl ⟨by rfl, ?_⟩) ?_ ?_
                                  rotate_left
                                  · intro w'
                                    go_simp
                                    with_reducible rfl
                                  rotate_left
                                  · simp only [Act.put, List.setIfInBounds_toArray, List.set_cons_zero, List.set_cons_succ, i64_w, i32_w]
                                    rfl
                                  refine last_ (i := 11) (N := none) #[true, true, true, true, true, true, true, true, true, true, true, true] rfl rfl (one_of HT_.out (by kernel_rfl)) (by decide) (fun K hK => ?_)
                                  refine skip_ (w1 := ?_) (by rfl) rfl ?_ ?_
                                  rotate_left
                                  · go_simp
                                    rfl
                                  refine hK.out _ _ ?_
                                  clear hK K
                                  refine done_ (done_of HT_.out (by kernel_rfl)) ?_
                                  try go_wp2
                                  (try simp only [← hl5_3])
                                  go_roundg k3
                                  case measure => have := HJ2.out; have := HK2.out; have := HK3.out; omega
                                  case rel => exact ⟨(y122), (ji20), (by first | rfl | (simp; done) | (simp only [← hji20] <;> (first | rfl | simp)) | (simp [*]; done)), H', ⟨by have := HJ2.out; have := HK2.out; have := HK3.out; omega⟩, ⟨by (try simp only [hl5_2]); (try simp only [hl5_3]); (with_reducible repeat (first | apply Kd.R_alloc | apply Kd.R_drewN | apply Kd.R_drew)); exact HQ25.out⟩, ⟨by repeat (first | (with_reducible first | exact HB.out | apply below_alloc | apply pw_below_drewN | apply below_drew1 | refine below_set ?_ GB10.out) | exact HB.out)⟩⟩
                                · rw [if_neg c22] at H
                                  exact absurd H (by simp)
                              · rw [if_neg c21] at H
                                exact absurd H (by simp)
                            · rw [if_neg c19] at H
                              exact absurd H (by simp)
                          · rw [if_neg c18] at H
                            exact absurd H (by simp)
                        · rw [if_neg c17] at H
                          have c17b0 : decide (0 < x7_3) = false := decide_eq_false c17
                          clear c17
                          have H' := Aside0.mk H
                          clear H
                          go_wp2
                          (try simp only [← hl5_2, ← hl5_3])
                          go_roundg k3
                          case measure => have := HJ2.out; have := HK2.out; have := HK3.out; omega
                          case rel => exact ⟨(x5_3), (wrap64 (x6_2 + 1)), (by first | rfl | (simp; done) | (simp [*]; done)), H', ⟨by have := HJ2.out; have := HK2.out; have := HK3.out; omega⟩, ⟨by (try simp only [hl5_2]); (try simp only [hl5_3]); (with_reducible repeat (first | apply Kd.R_alloc | apply Kd.R_drewN | apply Kd.R_drew)); (first | exact HO_5.out | exact Kd.R_mono HO_5.out (fun k_ h_ => by simp only [ownB_] at h_ ⊢; exact h_))⟩, ⟨by repeat (first | (with_reducible first | exact HB.out | apply below_alloc | apply pw_below_drewN | apply below_drew1) | exact HB.out)⟩⟩
                  · rw [if_neg c15] at H
                    have c15b0 : decide (x6_2 ≤ a0) = false := decide_eq_false c15
                    clear c15
                    by_cases c26 : 0 ≤ a1
                    · rw [if_pos c26] at H
                      have c26b0 : decide (0 ≤ a1) = true := decide_eq_true c26
                      clear c26
                      by_cases c27 : a1 < (x5_2.length : Int)
                      · rw [if_pos c27] at H
                        have c27b0 : decide (a1 < (x5_2.length : Int)) = true := decide_eq_true c27
                        (try (have c27b75_2 := c27b0; rw [hl5_2] at c27b75_2))
                        (try (have c27b75_3 := c27b0; rw [hl5_3] at c27b75_3))
                        clear c27
                        obtain rfl := Option.some.inj H
                        have p118 : 0 ≤ (a1 : Int) := of_decide_eq_true (by first | (with_reducible assumption) | assumption)
                        have q118 : a1 < (x5_2.length : Int) := of_decide_eq_true (by first | (with_reducible assumption) | assumption)
                        obtain ⟨ad118, e118, hx118_0⟩ := Kd.at_int (Kd.R_reads' HO_5.out).2.2 a1 p118 q118
                        obtain rfl : (⟨go10, 0, none⟩ : Addr) = ad118 := (by injection e118)
                        (first | simp only [add_plain] at hx118_0 | simp only [add_at] at hx118_0 | simp only [Addr.add, Nat.zero_add] at hx118_0 | skip)
                        replace p118 := eq_true p118
                        replace q118 := eq_true q118
                        go_wp2
                        go_ret
                        exact ⟨by first | rfl | (simp [errW_none, errW_some] <;> rfl) | (simp only [← hji6]; first | rfl | (simp [errW_none, errW_some] <;> rfl)) | (simp [*, errW_none, errW_some] <;> rfl), by repeat (first | (with_reducible first | exact HB.out | apply below_alloc | apply pw_below_drewN | apply below_drew1) | exact HB.out)⟩
                      · rw [if_neg c27] at H
                        exact absurd H (by simp)
                    · rw [if_neg c26] at H
                      exact absurd H (by simp)
            · rw [if_neg c9] at H
              exact absurd H (by simp)
          · rw [if_neg c8] at H
            exact absurd H (by simp)
        · rw [if_neg c7] at H
          exact absurd H (by simp)

/-! ### spec_baAhead: function 72 -/
def spec_baAhead.f (k : Nat) (a0 : Int) (a1 : Int) (a2 : Int) : Option (Int) := if (wrap64 (a0 + a1)) = 0 then (some 1) else (if a0 < (wrap64 (a2 * a1)) then (some 0) else ((spec_paChoose.f k (wrap64 (a0 + a1)) a0).bind fun t123 => (some (wrap64 (Int.tdiv (wrap64 (t123 * (wrap64 (a0 - (wrap64 (a2 * a1)))))) (wrap64 (a0 + a1)))))))
theorem spec_baAhead.mono : ∀ a0 a1 a2 k, LeO (spec_baAhead.f k a0 a1 a2) (spec_baAhead.f (k + 1) a0 a1 a2) := by
  intro a0 a1 a2 k
  unfold spec_baAhead.f
  repeat' first
      | (with_reducible exact spec_paChoose.mono _ _ _)
      | (with_reducible exact LeO.refl _)
      | (with_reducible exact LeO.none _)
      | (with_reducible refine LeO.ite ?_ ?_)
      | (with_reducible refine LeO.bind ?_ (fun _ => ?_))
      | exact spec_paChoose.mono _ _ _
      | exact LeO.none _
      | refine LeO.ite ?_ ?_
      | refine LeO.bind ?_ (fun _ => ?_)
set_option maxHeartbeats 8000000 in
set_option maxRecDepth 100000 in
theorem spec_baAhead.calls (k : Nat) (a0 : Int) (a1 : Int) (a2 : Int) (r : Int) (w : World) (h : spec_baAhead.f k a0 a1 a2 = some r) :
    Calls Try.prog 72 #[.int .i64 a0, .int .i64 a1, .int .i64 a2] w fun e w' => e = .returned (.int .i64 r) ∧ Below w.heap.size w w' := by
  have HB := Aside0.mk (Below.refl w.heap.size w)
  have H : (if (wrap64 (a0 + a1)) = 0 then (some 1) else (if a0 < (wrap64 (a2 * a1)) then (some 0) else ((spec_paChoose.f k (wrap64 (a0 + a1)) a0).bind fun t123 => (some (wrap64 (Int.tdiv (wrap64 (t123 * (wrap64 (a0 - (wrap64 (a2 * a1)))))) (wrap64 (a0 + a1)))))))) = some r := h
  clear h
  by_cases c4 : (wrap64 (a0 + a1)) = 0
  · rw [if_pos c4] at H
    have c4b0 : ((wrap64 (a0 + a1)) == 0) = true := beq_iff_eq.mpr c4
    have c4b1 : ((wrap64 (a0 + a1)) != 0) = false := bne_eq_false_iff_eq.mpr c4
    clear c4
    obtain rfl := Option.some.inj H
    go_enter Try.func72, Try.ntmps72
    go_wp2
    go_ret
    exact ⟨by first | rfl | (simp [errW_none, errW_some] <;> rfl) | (simp [*, errW_none, errW_some] <;> rfl), by repeat (first | (with_reducible first | exact HB.out | apply below_alloc | apply pw_below_drewN | apply below_drew1) | exact HB.out)⟩
  · rw [if_neg c4] at H
    have c4b0 : ((wrap64 (a0 + a1)) == 0) = false := beq_eq_false_iff_ne.mpr c4
    have c4b1 : ((wrap64 (a0 + a1)) != 0) = true := bne_iff_ne.mpr c4
    by_cases c5 : a0 < (wrap64 (a2 * a1))
    · rw [if_pos c5] at H
      have c5b0 : decide (a0 < (wrap64 (a2 * a1))) = true := decide_eq_true c5
      clear c5
      obtain rfl := Option.some.inj H
      go_enter Try.func72, Try.ntmps72
      go_wp2
      go_ret
      exact ⟨by first | rfl | (simp [errW_none, errW_some] <;> rfl) | (simp [*, errW_none, errW_some] <;> rfl), by repeat (first | (with_reducible first | exact HB.out | apply below_alloc | apply pw_below_drewN | apply below_drew1) | exact HB.out)⟩
    · rw [if_neg c5] at H
      have c5b0 : decide (a0 < (wrap64 (a2 * a1))) = false := decide_eq_false c5
      clear c5
      replace H := Option.bind_eq_some_iff.mp H
      obtain ⟨t123, A60, H⟩ := H
      replace H : (some (wrap64 (Int.tdiv (wrap64 (t123 * (wrap64 (a0 - (wrap64 (a2 * a1)))))) (wrap64 (a0 + a1))))) = some r := H
      have A6 := Aside0.mk A60
      clear A60
      obtain rfl := Option.some.inj H
      go_enter Try.func72, Try.ntmps72
      go_wp2_with (first | ((with_reducible refine gate_callee (f := 51) rfl ?_); refine goesL_ (some 20) rfl rfl Try.func51 (by kernel_rfl) rfl #[.int .i64 (wrap64 (a0 + a1)), .int .i64 a0] rfl (by (try simp only [List.map_toArray, List.map_cons, List.map_nil]); first | done | rfl | (simp only [List.length_drop, List.length_take]; rfl)) ?_; (with_reducible refine (spec_paChoose.calls k (wrap64 (a0 + a1)) a0 t123 _ A6.out).mono ?_); rintro e w7 ⟨rfl, hb⟩; refine ⟨_, rfl, ?_⟩; have n0_ := Aside0.mk (below_step (by repeat (first | (with_reducible first | exact HB.out | apply below_alloc | apply pw_below_drewN | apply below_drew1) | exact HB.out)) hb); clear HB; have HB := n0_; clear n0_; (try clear hb); (try clear hb2); (try clear hk); (try clear hi)))
      go_ret
      exact ⟨by first | rfl | (simp [errW_none, errW_some] <;> rfl) | (simp [*, errW_none, errW_some] <;> rfl), by repeat (first | (with_reducible first | exact HB.out | apply below_alloc | apply pw_below_drewN | apply below_drew1) | exact HB.out)⟩

/-! ### spec_AllAhead: function 33 -/
theorem below_dn (B : Nat) (w : World) (n : Nat) : Below B w (w.drewN n) := ⟨rfl, rfl, rfl, Nat.le_refl _, fun _ _ => rfl⟩
theorem strOf_app (a b : List Int) : strOfNums (a ++ b) = strOfNums a ++ strOfNums b := by
  apply ByteArray.ext
  rw [ByteArray.data_append]
  unfold strOfNums
  simp
theorem strOf_cons (s : ByteArray) (c : Int) (u : UInt8) (h : strOfNums [c] = ⟨#[u]⟩) (x : List Int) : s ++ strOfNums (c :: x) = (s ++ (⟨#[u]⟩ : ByteArray)) ++ strOfNums x := by
  rw [show c :: x = [c] ++ x from rfl, strOf_app, h, ByteArray.append_assoc]
/-- The texts that the reference's search meets. -/
def Lk (k l : Int) : Nat → Int → Int → Int → List (List Int)
  | 0, _, _, _ => [[]]
  | n + 1, a, b, mg => (if 0 < b ∧ l ≤ mg - k then (Lk k l n a (b - 1) (mg - k)).map (68 :: ·) else []) ++ (if 0 < a then (Lk k l n (a - 1) b (mg + 1)).map (85 :: ·) else [])
/-- What is in the variable that the search fills. -/
structure OutB (g S : Nat) (w0 W : World) (v : Value) (xs : List ByteArray) : Prop where
  cell : W.cell? ⟨g, 0, none⟩ = some v
  froz : W.frozen? ⟨g, 0, none⟩ = false
  row : Kd.R Kd.string 9 W S (fun x => x ≠ g) v xs
  bel : Below S w0 W
theorem mul_one_less (k b : Int) : k * (b - 1) = k * b - k := by rw [Int.mul_sub, Int.mul_one]
set_option maxHeartbeats 16000000 in
set_option maxRecDepth 100000 in
theorem baLook.calls (g S : Nat) (hSg : S ≤ g) (w0 : World) (hS0 : S ≤ w0.heap.size) (k l : Int) (hk : 1 ≤ k ∧ k ≤ 5) (hl : -10 ≤ l ∧ l ≤ 10) : ∀ (n : Nat) (s : ByteArray) (a b mg : Int) (W : World) (v : Value) (xs : List ByteArray), 0 ≤ a → 0 ≤ b → a + b = n → s.size + n ≤ 40 → l - 1 ≤ mg → mg + a ≤ 400 → (n = 0 ∨ l ≤ mg + a - k * b) → xs.length + (Lk k l n a b mg).length ≤ 300 → OutB g S w0 W v xs →
    Calls Try.prog 69 #[.string s, .int .i64 a, .int .i64 b, .int .i64 k, .int .i64 mg, .int .i64 l, .pointer (some ⟨g, 0, none⟩)] W fun e w' => e = .returned (.tuple #[]) ∧ ∃ v', OutB g S w0 w' v' (xs ++ (Lk k l n a b mg).map (fun x => s ++ strOfNums x)) := by
  intro n
  induction n with
  | zero =>
    intro s a b mg W v xs ha hb hn hs hm1 hm2 hf hx ho
    obtain rfl : a = 0 := by omega
    obtain rfl : b = 0 := by omega
    have HO := Aside0.mk ho
    obtain ⟨A, c, rfl⟩ := Kd.R_slice ho.row
    have hcell := ho.cell
    have hfroz := ho.froz
    clear ho
    have hlen : (xs.length : Int) ≤ 300 := by omega
    have hlb : decide ((xs.length : Int) > 300) = false := decide_eq_false (by omega)
    have hlc : decide (300 < (xs.length : Int)) = false := decide_eq_false (by omega)
    have HL := Aside0.mk hlen
    have hgl := Aside0.mk (World.block_lt_of_cell? W _ hcell)
    clear hlen hx hm1 hm2 hf hs hn ha hb
    go_enter Try.func69, Try.ntmps69
    go_wp2_with (first | ((with_reducible refine gate_builtin (b := .append) (xs := #[.tmp 26, .tmp 28]) rfl ?_); at_builtin; refine Kd.R_append Kd.string (w0 := W) S rfl (.tmp 26) (.tmp 28) 35 9 (.string ⟨#[]⟩) 16 rfl Try.underlying35 info9 rfl (by decide) (by omega) (.slice A xs.length c) xs s [.string s] (fun x => x ≠ g) (fun _ => False) rfl rfl ?aP (fun _ hk => hk.elim) ?aF ?aO ?aB ?aS ?aL ?_; (case aP => exact rfl); (case aB => exact (Below.refl _ _)); (case aF => exact (fun x hx => by have := hgl.out; simp only at this; omega)); (case aO => exact HO.out.row); (case aS => exact Nat.le_trans hS0 HO.out.bel.size); (case aL => have := HL.out; omega); intro v126 w13 hr hb hg hat; have HR2 := Aside0.mk hr; have hc13 : w13.cell? ⟨g, 0, none⟩ = some (.slice A xs.length c) := cell_grown hg hcell (fun e => HO.out.row.1 g e.symm rfl); have hf13 : w13.frozen? ⟨g, 0, none⟩ = false := (World.frozen?_of_block (hg.block g hgl.out (fun e => HO.out.row.1 g e.symm rfl))).trans hfroz; have HB2 := Aside0.mk hb; obtain ⟨A13, c13, e13⟩ := Kd.R_slice hr; subst e13; clear hr hb hg hat))
    first | go_end0 | refine bodyPost_ret (results_none rfl _ _ _) rfl ?_
    refine ⟨rfl, _, World.cell?_setCell_same' _ _ _ (by rw [hc13]; rfl), by rw [World.frozen?_setCell]; exact hf13, ?_, (HO.out.bel.trans HB2.out).setCell hSg _⟩
    have e2 : xs ++ (Lk k l 0 0 0 mg).map (fun x => s ++ strOfNums x) = xs ++ [s] := by
      simp only [Lk, List.map_cons, List.map_nil]
      congr 2
      rw [show strOfNums [] = (ByteArray.empty) from rfl, ByteArray.append_empty]
    rw [e2]
    have h_ := Kd.R_far HR2.out (p := ⟨g, 0, none⟩) (fun x hx => hx) (.slice A13 (xs.length + 1) c13)
    rw [List.length_append, List.length_singleton] at h_
    exact h_
  | succ n ih =>
    intro s a b mg W v xs ha hb hn hs hm1 hm2 hf' hx ho
    have hf : l ≤ mg + a - k * b := by rcases hf' with h | h; exact absurd h (by omega); exact h
    clear hf'
    have HO := Aside0.mk ho
    obtain ⟨A, c, rfl⟩ := Kd.R_slice ho.row
    have hcell := ho.cell
    have hlen : (xs.length : Int) ≤ 300 := by omega
    have hlb : decide ((xs.length : Int) > 300) = false := decide_eq_false (by omega)
    have hlc : decide (300 < (xs.length : Int)) = false := decide_eq_false (by omega)
    have ha40 : a ≤ 40 := by omega
    have hb40 : b ≤ 40 := by omega
    have hsum : ((a + b) == 0) = false := by simp; omega
    have hkb0 : 0 ≤ k * b := Int.mul_nonneg (by omega) hb
    have hkb1 : k * b ≤ 5 * 40 := Int.mul_le_mul hk.2 (by omega) hb (by omega)
    have hfb : decide (mg + a - k * b ≥ l) = true := decide_eq_true hf
    have hfc : decide (l ≤ mg + a - k * b) = true := decide_eq_true hf
    have hu1 : decide (mg + 1 ≥ l) = true := decide_eq_true (by omega)
    have hu2 : decide (l ≤ mg + 1) = true := decide_eq_true (by omega)
    have hsz : decide (s.size + 1 ≤ 9223372036854775807) = true := decide_eq_true (by omega)
    have hsz2 : (9223372036854775807 < s.size + 1) = False := eq_false (by omega)
    have s1 : (s ++ (⟨#[68]⟩ : ByteArray)).size + n ≤ 40 := by rw [ByteArray.size_append]; show s.size + 1 + n ≤ 40; omega
    have s2 : (s ++ (⟨#[85]⟩ : ByteArray)).size + n ≤ 40 := by rw [ByteArray.size_append]; show s.size + 1 + n ≤ 40; omega
    have HLk := Aside0.mk (show Lk k l (n + 1) a b mg = (if 0 < b ∧ l ≤ mg - k then (Lk k l n a (b - 1) (mg - k)).map (68 :: ·) else []) ++ (if 0 < a then (Lk k l n (a - 1) b (mg + 1)).map (85 :: ·) else []) from rfl)
    have mD : ∀ y : List (List Int), (y.map (68 :: ·)).map (fun x => s ++ strOfNums x) = y.map (fun x => (s ++ (⟨#[68]⟩ : ByteArray)) ++ strOfNums x) := fun y => by rw [List.map_map]; exact List.map_congr_left (fun x _ => strOf_cons s 68 68 rfl x)
    have mU : ∀ y : List (List Int), (y.map (85 :: ·)).map (fun x => s ++ strOfNums x) = y.map (fun x => (s ++ (⟨#[85]⟩ : ByteArray)) ++ strOfNums x) := fun y => by rw [List.map_map]; exact List.map_congr_left (fun x _ => strOf_cons s 85 85 rfl x)
    have HmD := Aside0.mk mD
    have HmU := Aside0.mk mU
    have Hih := Aside0.mk ih
    have Hpre := Aside0.mk (And.intro s1 s2)
    have hx' := Aside0.mk hx
    clear mD mU ih s1 s2 hx ho
    by_cases hbp : 0 < b
    · have hbb : decide (b > 0) = true := decide_eq_true hbp
      have hbc : decide (0 < b) = true := decide_eq_true hbp
      by_cases hmk : l ≤ mg - k
      · have hkb : decide (mg - k ≥ l) = true := decide_eq_true hmk
        have hkc : decide (l ≤ mg - k) = true := decide_eq_true hmk
        have hbb1 := mul_one_less k b
        have e1 := HLk.out
        rw [if_pos ⟨hbp, hmk⟩] at e1
        by_cases hap : 0 < a
        · have hab : decide (a > 0) = true := decide_eq_true hap
          have hac : decide (0 < a) = true := decide_eq_true hap
          rw [if_pos hap] at e1
          have hx2 := hx'.out
          rw [e1, List.length_append, List.length_map, List.length_map] at hx2
          have cD := Hih.out (s ++ (⟨#[68]⟩ : ByteArray)) a (b - 1) (mg - k) W _ xs ha (by omega) (by omega) Hpre.out.1 (by omega) (by omega) (.inr (by omega)) (by omega) HO.out
          have cU := fun W' v' (h : OutB g S w0 W' v' (xs ++ (Lk k l n a (b - 1) (mg - k)).map (fun x => (s ++ (⟨#[68]⟩ : ByteArray)) ++ strOfNums x))) => Hih.out (s ++ (⟨#[85]⟩ : ByteArray)) (a - 1) b (mg + 1) W' v' _ (by omega) hb (by omega) Hpre.out.2 (by omega) (by omega) (.inr (by omega)) (by rw [List.length_append, List.length_map]; omega) h
          have CU := Aside0.mk cU
          have E1 := Aside0.mk e1
          clear cU e1 hx2 hbb1 HLk hn hs
          go_enter Try.func69, Try.ntmps69
          go_wp2_with (first | (go_at_call 69; refine cD.mono ?_; clear cD; rintro e w1 ⟨rfl, v1, ho1⟩; have HO1 := Aside0.mk ho1; clear ho1) | (go_at_call 69; refine (CU.out _ _ HO1.out).mono ?_; rintro e w2 ⟨rfl, v2, ho2⟩; have HO2 := Aside0.mk ho2; clear ho2))
          first | go_end0 | refine bodyPost_ret (results_none rfl _ _ _) rfl ?_
          refine ⟨rfl, v2, ?_⟩
          rw [E1.out, List.map_append, HmD.out, HmU.out, ← List.append_assoc]
          exact HO2.out
        · have hab : decide (a > 0) = false := decide_eq_false hap
          have hac : decide (0 < a) = false := decide_eq_false hap
          rw [if_neg hap, List.append_nil] at e1
          have hx2 := hx'.out
          rw [e1, List.length_map] at hx2
          have cD := Hih.out (s ++ (⟨#[68]⟩ : ByteArray)) a (b - 1) (mg - k) W _ xs ha (by omega) (by omega) Hpre.out.1 (by omega) (by omega) (.inr (by omega)) (by omega) HO.out
          have E1 := Aside0.mk e1
          clear e1 hx2 hbb1 HLk hn hs
          go_enter Try.func69, Try.ntmps69
          go_wp2_with (first | (go_at_call 69; refine cD.mono ?_; clear cD; rintro e w1 ⟨rfl, v1, ho1⟩; have HO1 := Aside0.mk ho1; clear ho1))
          first | go_end0 | refine bodyPost_ret (results_none rfl _ _ _) rfl ?_
          refine ⟨rfl, v1, ?_⟩
          rw [E1.out, HmD.out]
          exact HO1.out
      · have hkb : decide (mg - k ≥ l) = false := decide_eq_false hmk
        have hkc : decide (l ≤ mg - k) = false := decide_eq_false hmk
        have hkk : k ≤ k * b := by have := Int.mul_le_mul_of_nonneg_left (show (1 : Int) ≤ b by omega) (show 0 ≤ k by omega); rw [Int.mul_one] at this; exact this
        have hap : 0 < a := by omega
        have hab : decide (a > 0) = true := decide_eq_true hap
        have hac : decide (0 < a) = true := decide_eq_true hap
        have e1 := HLk.out
        rw [if_neg (by omega), if_pos hap, List.nil_append] at e1
        have hx2 := hx'.out
        rw [e1, List.length_map] at hx2
        have cU := Hih.out (s ++ (⟨#[85]⟩ : ByteArray)) (a - 1) b (mg + 1) W _ xs (by omega) hb (by omega) Hpre.out.2 (by omega) (by omega) (.inr (by omega)) (by omega) HO.out
        have E1 := Aside0.mk e1
        clear e1 hx2 HLk hn hs
        go_enter Try.func69, Try.ntmps69
        go_wp2_with (first | (go_at_call 69; refine cU.mono ?_; clear cU; rintro e w1 ⟨rfl, v1, ho1⟩; have HO1 := Aside0.mk ho1; clear ho1))
        first | go_end0 | refine bodyPost_ret (results_none rfl _ _ _) rfl ?_
        refine ⟨rfl, v1, ?_⟩
        rw [E1.out, HmU.out]
        exact HO1.out
    · have hbb : decide (b > 0) = false := decide_eq_false hbp
      have hbc : decide (0 < b) = false := decide_eq_false hbp
      have hap : 0 < a := by omega
      have hab : decide (a > 0) = true := decide_eq_true hap
      have hac : decide (0 < a) = true := decide_eq_true hap
      have e1 := HLk.out
      rw [if_neg (by omega), if_pos hap, List.nil_append] at e1
      have hx2 := hx'.out
      rw [e1, List.length_map] at hx2
      have cU := Hih.out (s ++ (⟨#[85]⟩ : ByteArray)) (a - 1) b (mg + 1) W _ xs (by omega) hb (by omega) Hpre.out.2 (by omega) (by omega) (.inr (by omega)) (by omega) HO.out
      have E1 := Aside0.mk e1
      clear e1 hx2 HLk hn hs
      go_enter Try.func69, Try.ntmps69
      go_wp2_with (first | (go_at_call 69; refine cU.mono ?_; clear cU; rintro e w1 ⟨rfl, v1, ho1⟩; have HO1 := Aside0.mk ho1; clear ho1))
      first | go_end0 | refine bodyPost_ret (results_none rfl _ _ _) rfl ?_
      refine ⟨rfl, v1, ?_⟩
      rw [E1.out, HmU.out]
      exact HO1.out
set_option maxHeartbeats 16000000 in
set_option maxRecDepth 100000 in
theorem baLook_idle (g S : Nat) (w0 : World) (k l : Int) (hk : 1 ≤ k ∧ k ≤ 5) (hl : -10 ≤ l ∧ l ≤ 10) (s : ByteArray) (a b : Int) (W : World) (v : Value) (xs : List ByteArray) (ha : 0 ≤ a) (hb : 0 ≤ b) (hn : 1 ≤ a + b) (hn2 : a + b ≤ 40) (hf : ¬ l ≤ 0 + a - k * b) (hx : xs.length ≤ 300) (ho : OutB g S w0 W v xs) :
    Calls Try.prog 69 #[.string s, .int .i64 a, .int .i64 b, .int .i64 k, .int .i64 0, .int .i64 l, .pointer (some ⟨g, 0, none⟩)] W fun e w' => e = .returned (.tuple #[]) ∧ ∃ v', OutB g S w0 w' v' xs := by
  have HO := Aside0.mk ho
  obtain ⟨A, c, rfl⟩ := Kd.R_slice ho.row
  have hcell := ho.cell
  have hlb : decide ((xs.length : Int) > 300) = false := decide_eq_false (by omega)
  have hlc : decide (300 < (xs.length : Int)) = false := decide_eq_false (by omega)
  have hlen : (xs.length : Int) ≤ 300 := by omega
  have ha40 : a ≤ 40 := by omega
  have hb40 : b ≤ 40 := by omega
  have hsum : ((a + b) == 0) = false := by simp; omega
  have hkb0 : 0 ≤ k * b := Int.mul_nonneg (by omega) hb
  have hkb1 : k * b ≤ 5 * 40 := Int.mul_le_mul hk.2 (by omega) hb (by omega)
  have hfb : decide (0 + a - k * b ≥ l) = false := decide_eq_false (by omega)
  have hfc : decide (l ≤ 0 + a - k * b) = false := decide_eq_false (by omega)
  have hfd : decide (a - k * b ≥ l) = false := decide_eq_false (by omega)
  have hfe : decide (l ≤ a - k * b) = false := decide_eq_false (by omega)
  clear ho hx hn hn2 hf
  by_cases hbp : 0 < b
  · have hbb : decide (b > 0) = true := decide_eq_true hbp
    have hbc : decide (0 < b) = true := decide_eq_true hbp
    by_cases hap : 0 < a
    · have hab : decide (a > 0) = true := decide_eq_true hap
      have hac : decide (0 < a) = true := decide_eq_true hap
      go_enter Try.func69, Try.ntmps69
      go_wp2_with fail
      all_goals (go_end0; exact ⟨rfl, _, HO.out⟩)
    · have hab : decide (a > 0) = false := decide_eq_false hap
      have hac : decide (0 < a) = false := decide_eq_false hap
      go_enter Try.func69, Try.ntmps69
      go_wp2_with fail
      all_goals (go_end0; exact ⟨rfl, _, HO.out⟩)
  · have hbb : decide (b > 0) = false := decide_eq_false hbp
    have hbc : decide (0 < b) = false := decide_eq_false hbp
    by_cases hap : 0 < a
    · have hab : decide (a > 0) = true := decide_eq_true hap
      have hac : decide (0 < a) = true := decide_eq_true hap
      go_enter Try.func69, Try.ntmps69
      go_wp2_with fail
      all_goals (go_end0; exact ⟨rfl, _, HO.out⟩)
    · have hab : decide (a > 0) = false := decide_eq_false hap
      have hac : decide (0 < a) = false := decide_eq_false hap
      go_enter Try.func69, Try.ntmps69
      go_wp2_with fail
      all_goals (go_end0; exact ⟨rfl, _, HO.out⟩)
/-- What the reference's search comes to. -/
def LkTop (k l a b : Int) : List (List Int) := if a + b = 0 ∨ l ≤ a - k * b then Lk k l (a + b).toNat a b 0 else []
theorem fresh_cell (w : World) (v : Value) (t : Nat) : (w.alloc (.cells #[v] t)).cell? ⟨w.heap.size, 0, none⟩ = some v ∧ (w.alloc (.cells #[v] t)).frozen? ⟨w.heap.size, 0, none⟩ = false := by
  have h : (w.alloc (.cells #[v] t)).heap[w.heap.size]? = some (.cells #[v] t (0, 0)) := by
    show (w.heap.push _)[w.heap.size]? = _
    exact Array.getElem?_push_size
  exact ⟨cell_of_one h, free_of_one h⟩
theorem baLook.top (S : Nat) (w0 W : World) (hS : S ≤ W.heap.size) (hS0 : S ≤ w0.heap.size) (hb0 : Below S w0 W) (k l a b : Int) (hk : 1 ≤ k ∧ k ≤ 5) (hl : l = 0 ∨ l = 1) (hs : 0 ≤ a ∧ a ≤ 40 ∧ 0 ≤ b ∧ b ≤ 40 ∧ a + b ≤ 40) (hx : (LkTop k l a b).length ≤ 300) :
    Calls Try.prog 69 #[.string ⟨#[]⟩, .int .i64 a, .int .i64 b, .int .i64 k, .int .i64 0, .int .i64 l, .pointer (some ⟨W.heap.size, 0, none⟩)] (W.alloc (.cells #[.slice none 0 0] 35)) fun e w' => e = .returned (.tuple #[]) ∧ ∃ v', OutB W.heap.size S w0 w' v' ((LkTop k l a b).map strOfNums) := by
  have hc := fresh_cell W (.slice none 0 0) 35
  have ho : OutB W.heap.size S w0 (W.alloc (.cells #[.slice none 0 0] 35)) (.slice none 0 0) [] := ⟨hc.1, hc.2, Kd.R_nil _ _ _ _ _, hb0.alloc hS _⟩
  unfold LkTop at hx ⊢
  by_cases h : a + b = 0 ∨ l ≤ a - k * b
  · rw [if_pos h] at hx ⊢
    refine (baLook.calls W.heap.size S hS w0 hS0 k l hk (by omega) (a + b).toNat ⟨#[]⟩ a b 0 _ _ [] hs.1 hs.2.2.1 (by omega) (by show 0 + _ ≤ 40; omega) (by omega) (by omega) (by rcases h with h | h; exact .inl (by omega); exact .inr (by omega)) (by rw [List.length_nil]; omega) ho).mono ?_
    rintro e w' ⟨he, v', h'⟩
    refine ⟨he, v', ?_⟩
    have e2 : [] ++ (Lk k l (a + b).toNat a b 0).map (fun x => (⟨#[]⟩ : ByteArray) ++ strOfNums x) = (Lk k l (a + b).toNat a b 0).map strOfNums := by
      rw [List.nil_append]
      exact List.map_congr_left (fun x _ => ByteArray.empty_append)
    rw [e2] at h'
    exact h'
  · rw [if_neg h]
    refine (baLook_idle W.heap.size S w0 k l hk (by omega) ⟨#[]⟩ a b _ _ [] hs.1 hs.2.2.1 (by omega) (by omega) (by omega) (by simp) ho).mono ?_
    rintro e w' ⟨he, v', h'⟩
    exact ⟨he, v', h'⟩
def spec_AllAhead.f (k : Nat) (a0 a1 a2 : Int) : Option (List ByteArray × Bool) := (spec_baNumbers.f a0 a1 a2).bind fun t => if t = true then ((spec_baAhead.f k a0 a1 a2).bind fun q => if q > 300 then some ([], false) else if (LkTop a2 1 a0 a1).length ≤ 300 then some ((LkTop a2 1 a0 a1).map strOfNums, true) else none) else some ([], false)
theorem spec_AllAhead.mono : ∀ a0 a1 a2 k, LeO (spec_AllAhead.f k a0 a1 a2) (spec_AllAhead.f (k + 1) a0 a1 a2) := by
  intro a0 a1 a2 k
  unfold spec_AllAhead.f
  refine LeO.bind (LeO.refl _) (fun t => ?_)
  refine LeO.ite ?_ (LeO.refl _)
  exact LeO.bind (spec_baAhead.mono _ _ _ _) (fun q => LeO.refl _)
theorem specvotes_of {a b k : Int} (h : spec_baNumbers.f a b k = some true) : (0 ≤ a ∧ a ≤ 40 ∧ 0 ≤ b ∧ b ≤ 40 ∧ a + b ≤ 40) ∧ (1 ≤ k ∧ k ≤ 5) := by
  unfold spec_baNumbers.f spec_paSteps.f spec_l1In.f at h
  by_cases h1 : a ≥ 0
  · by_cases h2 : a ≤ 40
    · by_cases h3 : b ≥ 0
      · by_cases h4 : b ≤ 40
        · by_cases h5 : wrap64 (a + b) ≤ 40
          · by_cases h6 : k ≥ 1
            · by_cases h7 : k ≤ 5
              · unfold wrap64 at h5; omega
              · simp [h1, h2, h3, h4, h5, h6, h7] at h
            · simp [h1, h2, h3, h4, h5, h6] at h
          · simp [h1, h2, h3, h4, h5] at h
        · simp [h1, h2, h3, h4] at h
      · simp [h1, h2, h3] at h
    · simp [h1, h2] at h
  · simp [h1] at h
set_option maxHeartbeats 8000000 in
set_option maxRecDepth 100000 in
theorem spec_AllAhead.calls (k : Nat) (a0 a1 a2 : Int) (r1 : List ByteArray) (r2 : Bool) (w : World) (h : spec_AllAhead.f k a0 a1 a2 = some (r1, r2)) :
    Calls Try.prog 33 #[.int .i64 a0, .int .i64 a1, .int .i64 a2] w fun e w' => ∃ v0_ : Value, e = .returned (.tuple #[v0_, .bool r2]) ∧ Kd.R Kd.string 9 w' w.heap.size (fun _ => True) v0_ r1 ∧ Below w.heap.size w w' := by
  unfold spec_AllAhead.f at h
  replace h := Option.bind_eq_some_iff.mp h
  obtain ⟨t, At0, h⟩ := h
  have At := Aside0.mk At0
  cases t with
  | false =>
    clear At0
    simp only [Bool.false_eq_true, if_false, Option.some.injEq, Prod.mk.injEq] at h
    obtain ⟨rfl, rfl⟩ := h
    go_enter Try.func33, Try.ntmps33
    go_wp2_with (first | (go_at_call 64; refine (spec_baNumbers.calls a0 a1 a2 false _ At.out).mono ?_; rintro e w' ⟨rfl, ⟨nd, rfl⟩⟩))
    go_ret2
    exact ⟨_, rfl, Kd.R_nil _ _ _ _ _, by repeat (first | exact Below.refl _ _ | apply pw_below_drewN)⟩
  | true =>
    have hv := specvotes_of At0
    clear At0
    simp only [if_true] at h
    replace h := Option.bind_eq_some_iff.mp h
    obtain ⟨q, Aq0, h⟩ := h
    have Aq := Aside0.mk Aq0
    clear Aq0
    by_cases hq : q > 300
    · rw [if_pos hq] at h
      simp only [Option.some.injEq, Prod.mk.injEq] at h
      obtain ⟨rfl, rfl⟩ := h
      have hqb : decide (q > 300) = true := decide_eq_true hq
      have hqc : decide (300 < q) = true := decide_eq_true hq
      go_enter Try.func33, Try.ntmps33
      go_wp2_with (first | (go_at_call 64; refine (spec_baNumbers.calls a0 a1 a2 true _ At.out).mono ?_; rintro e w' ⟨rfl, ⟨nd, rfl⟩⟩) | (go_at_call 72; refine (spec_baAhead.calls k a0 a1 a2 q _ Aq.out).mono ?_; rintro e w1 ⟨rfl, hbl⟩; have HB1 := Aside0.mk (show Below w.heap.size w w1 from (below_dn _ _ _).trans hbl); clear hbl))
      go_ret2
      exact ⟨_, rfl, Kd.R_nil _ _ _ _ _, HB1.out⟩
    · rw [if_neg hq] at h
      by_cases hlk : (LkTop a2 1 a0 a1).length ≤ 300
      · rw [if_pos hlk] at h
        simp only [Option.some.injEq, Prod.mk.injEq] at h
        obtain ⟨hr1, rfl⟩ := h
        have HR1 := Aside0.mk hr1
        have HLk := Aside0.mk hlk
        have HV := Aside0.mk hv
        have hqb : decide (q > 300) = false := decide_eq_false hq
        have hqc : decide (300 < q) = false := decide_eq_false hq
        clear hr1 hlk hv hq
        go_enter Try.func33, Try.ntmps33
        go_wp2_with (first | (go_at_call 64; refine (spec_baNumbers.calls a0 a1 a2 true _ At.out).mono ?_; rintro e w' ⟨rfl, ⟨nd, rfl⟩⟩) | (go_at_call 72; refine (spec_baAhead.calls k a0 a1 a2 q _ Aq.out).mono ?_; rintro e w1 ⟨rfl, hbl⟩; have HB1 := Aside0.mk (show Below w.heap.size w w1 from (below_dn _ _ _).trans hbl); clear hbl) | (go_at_call 69; refine (baLook.top w.heap.size w w1 HB1.out.size (Nat.le_refl _) HB1.out a2 1 a0 a1 HV.out.2 (by omega) HV.out.1 HLk.out).mono ?_; rintro e w2 ⟨rfl, v2, ho2⟩; have HO2 := Aside0.mk ho2; have hc2 := ho2.cell; clear ho2))
        go_ret2
        exact ⟨v2, rfl, by rw [← HR1.out]; exact Kd.R_mono HO2.out.row (fun _ _ => trivial), HO2.out.bel⟩
      · rw [if_neg hlk] at h
        cases h

/-! ### impl_in: function 60 -/
def impl_in.f (a0 : Int) (a1 : Int) (a2 : Int) : Option (Bool) := if a1 ≤ a0 then (some (decide (a0 ≤ a2))) else (some false)
set_option maxHeartbeats 8000000 in
set_option maxRecDepth 100000 in
theorem impl_in.calls (a0 : Int) (a1 : Int) (a2 : Int) (r : Bool) (w : World) (h : impl_in.f a0 a1 a2 = some r) :
    Calls Try.prog 60 #[.int .i64 a0, .int .i64 a1, .int .i64 a2] w fun e w' => e = .returned (.bool r) ∧ Drawn0 w w' := by
  have H : (if a1 ≤ a0 then (some (decide (a0 ≤ a2))) else (some false)) = some r := h
  clear h
  by_cases c4 : a1 ≤ a0
  · rw [if_pos c4] at H
    have c4b0 : decide (a1 ≤ a0) = true := decide_eq_true c4
    clear c4
    obtain rfl := Option.some.inj H
    go_enter Try.func60, Try.ntmps60
    go_wp2
    go_ret
    exact ⟨by first | rfl | (simp; done) | (simp [*]; done), by repeat (first | exact Drawn0.refl _ | apply Drawn0.step)⟩
  · rw [if_neg c4] at H
    have c4b0 : decide (a1 ≤ a0) = false := decide_eq_false c4
    clear c4
    obtain rfl := Option.some.inj H
    go_enter Try.func60, Try.ntmps60
    go_wp2
    go_ret
    exact ⟨by first | rfl | (simp; done) | (simp [*]; done), by repeat (first | exact Drawn0.refl _ | apply Drawn0.step)⟩

end Go.Proofs.Ytblofikjcmjaeaa.PFnExactAllAhead
