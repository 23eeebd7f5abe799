/- The walk of the statement FnExactAllTrees, further on: contracts by hand; no condition. -/
import Derived.Test.YtlogghfgfokijaaPFnExactAllTreesx1
import Derived.Test.YtlogghfgfokijaaPFnExactAllTreesx2
namespace Go.Proofs.Ytlogghfgfokijaa.PFnExactAllTrees
open Go.RowKit Go.Proofs.YtlogghfgfokijaaW.PrintWords Go.Proofs.YtlogghfgfokijaaW.PrintLast Go.Proofs.YtlogghfgfokijaaW.PrintMore
attribute [local go_sem] max2_int min2_int max_two min_two max_three min_three max_four min_four   -- for this text's walks alone
set_option linter.unusedVariables false
set_option linter.unusedSimpArgs false


/-! ### impl_growTrees: function 26 -/
mutual
def impl_growTrees.l0 : Nat → List (List Int) → List Int → Int → Int → Int → Option (List (List Int))
  | 0, _, _, _, _, _ => none
  | k + 1, x0, x1, x2, x3, x9 => if wrap64 (wrap64 (x3 - 1) + x9) ≤ wrap64 (x2 - 1) then (if 0 < wrap64 (wrap64 (x3 - 1) + x9) then (if x1.length < 17592186044415 then ((impl_growTrees.f k x0 (x1 ++ [x9]) (wrap64 (x2 - 1)) (wrap64 (wrap64 (x3 - 1) + x9))).bind fun t => impl_growTrees.l0 k t x1 x2 x3 (wrap64 (x9 + 1))) else none) else (if x2 = 1 then (if x1.length < 17592186044415 then ((impl_growTrees.f k x0 (x1 ++ [x9]) (wrap64 (x2 - 1)) (wrap64 (wrap64 (x3 - 1) + x9))).bind fun t => impl_growTrees.l0 k t x1 x2 x3 (wrap64 (x9 + 1))) else none) else impl_growTrees.l0 k x0 x1 x2 x3 (wrap64 (x9 + 1)))) else some x0
def impl_growTrees.f : Nat → List (List Int) → List Int → Int → Int → Option (List (List Int))
  | 0, _, _, _, _ => none
  | k + 1, a0, a1, a2, a3 => if a2 = 0 then (if a1.length < 17592186044416 then (if a0.length < 5864062014805 then some (a0 ++ [a1]) else none) else none) else impl_growTrees.l0 k a0 a1 a2 a3 0
end
theorem cloneEq (l : List Int) (h : l.length < 17592186044416) : slices_Clone_int_int.f l = some l := if_pos h
set_option maxHeartbeats 8000000 in
set_option maxRecDepth 100000 in
theorem impl_growTrees.calls (k : Nat) : ∀ (uo u1 : Value) (l0 : List (List Int)) (l1 : List Int) (a2 a3 : Int) (r : List (List Int)) (w0 w : World) (hB : Below w0.heap.size w0 w) (ho0 : Kd.S (Kd.slice 3 (Kd.int .i64)) 22 w w0.heap.size (fun _ => True) uo l0) (ho1 : Kd.R (Kd.int .i64) 3 w w0.heap.size (fun _ => True) u1 l1) (h : impl_growTrees.f k l0 l1 a2 a3 = some r),
    Calls Try.prog 26 #[uo, u1, .int .i64 a2, .int .i64 a3] w fun e w' => ∃ v0_ : Value, e = .returned v0_ ∧ Kd.S (Kd.slice 3 (Kd.int .i64)) 22 w' w0.heap.size (fun _ => True) v0_ r ∧ Below w0.heap.size w0 w' ∧ Kept w w' (fun k_ => uo.ownBlock = some k_) ∧ (∀ k_, v0_.ownBlock = some k_ → uo.ownBlock = some k_ ∨ w.heap.size ≤ k_) := by
  induction k using Nat.strongRecOn with
  | _ k ih =>
  intro uo u1 l0 l1 a2 a3 r w0 w hB ho0 ho1 h
  cases k with
  | zero => exact absurd h (by simp [impl_growTrees.f])
  | succ k =>
  simp only [impl_growTrees.f] at h
  obtain ⟨A1, c1, e1⟩ := Kd.R_slice ho1
  subst e1
  have HS_0 := Aside0.mk ho0
  have HL := Aside0.mk ho1
  have HB := Aside0.mk hB
  have HK := Aside0.mk (Kept.refl w (fun k_ => uo.ownBlock = some k_))
  clear ho0 ho1 hB
  have q22 : ∀ (w : World) (a : Option Addr) (n c n' c' : Nat), (binOp .eql 22 (.slice a n c) (.slice none n' c')).run Try.prog w = .ok (.bool a.isNone) w := fun w a n c n' c' => Lib.run_eql_slice_nil w _ _ a n c n' c' Try.underlying22
  by_cases d3 : a2 = 0
  · rw [if_pos d3] at h
    have d3b0 : (a2 == 0) = true := beq_iff_eq.mpr d3
    by_cases d4 : l1.length < 17592186044416
    · rw [if_pos d4] at h
      have AC := Aside0.mk (cloneEq l1 d4)
      by_cases d5 : l0.length < 5864062014805
      · rw [if_pos d5] at h
        have LM := Aside0.mk d5
        obtain rfl := Option.some.inj h
        clear d3 d4 d5 q22
        go_enter Try.func26, Try.ntmps26
        go_wp2_with (first | ((with_reducible refine gate_callee (f := 34) rfl ?_); refine goesL_ (some 14) rfl rfl Try.func34 (by kernel_rfl) rfl #[.slice A1 l1.length c1] rfl (by (try simp only [List.map_toArray, List.map_cons, List.map_nil]); first | done | rfl | (simp only [List.length_drop, List.length_take]; rfl)) ?_; (with_reducible refine (slices_Clone_int_int.calls _ _ l1 l1 _ ?side1 ?side2 AC.out).mono ?_); (case side1 => repeat (first | exact (Kd.R_reads' HL.out).2.2 | (with_reducible refine Kd.C_alloc ?_ _) | (with_reducible refine Kd.C_drewN ?_ _) | (with_reducible refine Kd.C_drew ?_))); (case side2 => exact (Kd.R_reads' HL.out).2.1); rintro e w5 ⟨v5, rfl, ho0, hb⟩; refine ⟨_, rfl, ?_⟩; have n0_ := Aside0.mk (Kd.S_elder' (by (with_reducible repeat (first | apply Kd.S_alloc | apply Kd.S_drewN | apply Kd.S_drew)); exact HS_0.out) (Kd.R_base ho0) hb); have n1_ := Aside0.mk (Kd.R_lower ho0 (below_size (by repeat (first | (with_reducible first | exact HB.out | apply below_alloc | apply pw_below_drewN | apply below_drew1) | exact HB.out)))); have n2_ := Aside0.mk (below_step (by repeat (first | (with_reducible first | exact HB.out | apply below_alloc | apply pw_below_drewN | apply below_drew1) | exact HB.out)) hb); have n3_ := Aside0.mk (Kd.R_elder' (by (with_reducible repeat (first | apply Kd.R_alloc | apply Kd.R_drewN | apply Kd.R_drew)); exact HL.out) (Kd.R_base ho0) hb); have n5_ := Aside0.mk (show ∀ k_, (v5 : Value).ownBlock = some k_ → w.heap.size ≤ k_ from fun k_ e_ => Nat.le_trans (show w.heap.size ≤ _ from (by repeat (first | (with_reducible first | exact HK.out | apply Kept.alloc | apply Kept.drewN | apply Kept.drew) | exact HK.out) : Kept w _ (fun k_ => uo.ownBlock = some k_)).1) (Kd.R_base ho0 k_ e_)); have n4_ := Aside0.mk (Kept.below (by repeat (first | (with_reducible first | exact HK.out | apply Kept.alloc | apply Kept.drewN | apply Kept.drew) | exact HK.out) : Kept w _ (fun k_ => uo.ownBlock = some k_)) hb); clear HS_0 HL HB HK; have HS5 := n0_; have HC5 := n1_; have HB := n2_; have HL5 := n3_; have HK := n4_; have HF5 := n5_; clear n0_ n1_ n2_ n3_ n4_ n5_; clear hb ho0; obtain ⟨Ao5, co5, eo5⟩ := Kd.R_slice HC5.out; subst eo5) | ((with_reducible refine gate_builtin (b := .append) (xs := #[.tmp 12, .tmp 15]) rfl ?_); at_builtin; refine Kd.S_append (Kd.slice 3 (Kd.int .i64)) (w0 := w0) w0.heap.size rfl (.tmp 12) (.tmp 15) 23 22 (.slice none 0 0) 24 rfl Try.underlying23 info22 rfl (by decide) (by omega) uo l0 l1 [.slice Ao5 l1.length co5] (fun _ => True) (fun k_ => some k_ = (.slice Ao5 l1.length co5 : Value).ownBlock) rfl rfl ?aP (fun k_ hk_ => ((Kd.R_mono (ok' := fun k_ => ((fun _ => True)) k_ ∧ some k_ ≠ (uo : Value).ownBlock) (Kd.R_apart' (HC5.out) (Kd.S_typed HS5.out) (by decide)) (fun k_ hk => ⟨trivial, hk.2⟩))).1 k_ hk_.symm) ?aF ?aO ?aB ?aS ?aL ?_; (case aP => exact Kd.M_row (Kd.R_mono (Kd.R_tight rfl (Kd.R_mono (ok' := fun k_ => ((fun _ => True)) k_ ∧ some k_ ≠ (uo : Value).ownBlock) (Kd.R_apart' (HC5.out) (Kd.S_typed HS5.out) (by decide)) (fun k_ hk => ⟨trivial, hk.2⟩))) (fun _ h_ => h_))); (case aB => exact (by repeat (first | (with_reducible first | exact HB.out | apply below_alloc | apply pw_below_drewN | apply below_drew1) | exact HB.out))); (case aF => exact (fun _ _ => trivial)); (case aO => exact (by (with_reducible repeat (first | apply Kd.S_alloc | apply Kd.S_drewN | apply Kd.S_drew)); exact Kd.S_mono HS5.out (fun k_ hk => ⟨trivial, fun e_ => hk.2 e_⟩))); (case aS => exact (below_size (by repeat (first | (with_reducible first | exact HB.out | apply below_alloc | apply pw_below_drewN | apply below_drew1) | exact HB.out)))); (case aL => have := LM.out; omega); intro v6 w6 ho hb hg hat; have n1_ := Aside0.mk (Kept.of_grown (S := (fun k_ => uo.ownBlock = some k_)) hg (by repeat (first | (with_reducible first | exact HK.out | apply Kept.alloc | apply Kept.drewN | apply Kept.drew) | exact HK.out)) (fun k_ e_ => .inl e_)); have n2_ := Aside0.mk (show ∀ k_, (v6 : Value).ownBlock = some k_ → uo.ownBlock = some k_ ∨ w.heap.size ≤ k_ from fun k_ e_ => hat.elim (fun q_ => .inl (q_.symm.trans e_)) (fun ⟨b_, q_, l_⟩ => .inr (Nat.le_trans (by repeat (first | (with_reducible first | exact HK.out | apply Kept.alloc | apply Kept.drewN | apply Kept.drew) | exact HK.out) : Kept w _ (fun k_ => uo.ownBlock = some k_)).1 (by have e2_ := q_.symm.trans e_; injection e2_ with e2_; rw [← e2_]; exact l_)))); have n3_ := Aside0.mk ho; have n4_ := Aside0.mk hb; clear HB HK HS5; have HK := n1_; have HV := n2_; have HS := n3_; have HB := n4_; clear n1_ n2_ n3_ n4_; clear ho hb hg hat))
        go_ret
        exact ⟨_, rfl, (by (with_reducible repeat (first | apply Kd.S_alloc | apply Kd.S_drewN | apply Kd.S_drew)); exact HS.out), by repeat (first | (with_reducible first | exact HB.out | apply below_alloc | apply pw_below_drewN | apply below_drew1) | exact HB.out), by repeat (first | (with_reducible first | exact HK.out | apply Kept.alloc | apply Kept.drewN | apply Kept.drew) | exact HK.out), HV.out⟩
      · rw [if_neg d5] at h; cases h
    · rw [if_neg d4] at h; cases h
  · rw [if_neg d3] at h
    have d3b0 : (a2 == 0) = false := beq_eq_false_iff_ne.mpr d3
    have H' := Aside0.mk h
    clear h d3 q22
    have HV := Aside0.mk (show ∀ k_, (uo : Value).ownBlock = some k_ → uo.ownBlock = some k_ ∨ w.heap.size ≤ k_ from fun _ e_ => .inl e_)
    go_enter Try.func26, Try.ntmps26
    go_wp2
    go_loopg [0, 9] k (fun kq v0 v9 w' => ∃ (x0_1 : List (List Int)) (x9_1 : Int), v9 = .int .i64 x9_1 ∧ Aside0 (impl_growTrees.l0 kq x0_1 l1 a2 a3 x9_1 = some r) ∧ Aside0 (kq ≤ k) ∧ Aside0 (Kd.S (Kd.slice 3 (Kd.int .i64)) 22 w' w0.heap.size (fun _ => True) v0 x0_1) ∧ Aside0 (Kd.R (Kd.int .i64) 3 w' w0.heap.size (fun _ => True) (.slice A1 l1.length c1) l1) ∧ Aside0 (Kept w w' (fun k_ => uo.ownBlock = some k_)) ∧ Aside0 (∀ k_, (v0 : Value).ownBlock = some k_ → uo.ownBlock = some k_ ∨ w.heap.size ≤ k_) ∧ Aside0 (Below w0.heap.size w0 w'))
    case atStart => exact ⟨l0, 0, rfl, H', ⟨Nat.le_refl _⟩, ⟨(by (with_reducible repeat (first | apply Kd.S_alloc | apply Kd.S_drewN | apply Kd.S_drew)); exact HS_0.out)⟩, ⟨(by (with_reducible repeat (first | apply Kd.R_alloc | apply Kd.R_drewN | apply Kd.R_drew)); exact HL.out)⟩, ⟨by repeat (first | (with_reducible first | exact HK.out | apply Kept.alloc | apply Kept.drewN | apply Kept.drew) | exact HK.out)⟩, HV, ⟨by repeat (first | (with_reducible first | exact HB.out | apply below_alloc | apply pw_below_drewN | apply below_drew1) | exact HB.out)⟩⟩
    case round =>
      clear H' HS_0 HL HK HV HB
      try clear d3b0
      obtain ⟨x0_1, x9_1, rfl, HA, HK1, HS_0, HL, HK, HV, HB⟩ := hrel
      cases gk with
      | zero => exact absurd HA.out (by simp [impl_growTrees.l0])
      | succ k1 =>
        have H := HA.out
        clear HA
        simp only [impl_growTrees.l0] at H
        by_cases d4 : wrap64 (wrap64 (a3 - 1) + x9_1) ≤ wrap64 (a2 - 1)
        · rw [if_pos d4] at H
          have d4b0 : decide (wrap64 (wrap64 (a3 - 1) + x9_1) ≤ wrap64 (a2 - 1)) = true := decide_eq_true d4
          clear d4
          by_cases d5 : 0 < wrap64 (wrap64 (a3 - 1) + x9_1)
          · rw [if_pos d5] at H
            have d5b0 : decide (0 < wrap64 (wrap64 (a3 - 1) + x9_1)) = true := decide_eq_true d5
            clear d5
            by_cases d6 : l1.length < 17592186044415
            · rw [if_pos d6] at H
              have AC := Aside0.mk (cloneEq l1 (by omega))
              have LM := Aside0.mk d6
              clear d6
              obtain ⟨t9, A90, H⟩ := Option.bind_eq_some_iff.mp H
              replace H : (impl_growTrees.l0 k1 t9 l1 a2 a3 (wrap64 (x9_1 + 1))) = some r := H
              obtain ⟨y9, hy9⟩ : ∃ y_ : List Int, y_ = l1 ++ [x9_1] := ⟨_, rfl⟩
              rw [← hy9] at A90
              have Ny9 := Aside0.mk hy9
              have A9 := Aside0.mk A90
              clear hy9
              clear A90
              have H' := Aside0.mk H
              clear H
              go_wp2_with (first | ((with_reducible refine gate_callee (f := 34) rfl ?_); refine goesL_ (some 37) rfl rfl Try.func34 (by kernel_rfl) rfl #[.slice A1 l1.length c1] rfl (by (try simp only [List.map_toArray, List.map_cons, List.map_nil]); first | done | rfl | (simp only [List.length_drop, List.length_take]; rfl)) ?_; (with_reducible refine (slices_Clone_int_int.calls _ _ l1 l1 _ ?side1 ?side2 AC.out).mono ?_); (case side1 => repeat (first | exact (Kd.R_reads' HL.out).2.2 | (with_reducible refine Kd.C_alloc ?_ _) | (with_reducible refine Kd.C_drewN ?_ _) | (with_reducible refine Kd.C_drew ?_))); (case side2 => exact (Kd.R_reads' HL.out).2.1); rintro e w5 ⟨v5, rfl, ho0, hb⟩; refine ⟨_, rfl, ?_⟩; have n0_ := Aside0.mk (Kd.S_elder' (by (with_reducible repeat (first | apply Kd.S_alloc | apply Kd.S_drewN | apply Kd.S_drew)); exact HS_0.out) (Kd.R_base ho0) hb); have n1_ := Aside0.mk (Kd.R_lower ho0 (below_size (by repeat (first | (with_reducible first | exact HB.out | apply below_alloc | apply pw_below_drewN | apply below_drew1) | exact HB.out)))); have n2_ := Aside0.mk (below_step (by repeat (first | (with_reducible first | exact HB.out | apply below_alloc | apply pw_below_drewN | apply below_drew1) | exact HB.out)) hb); have n3_ := Aside0.mk (Kd.R_elder' (by (with_reducible repeat (first | apply Kd.R_alloc | apply Kd.R_drewN | apply Kd.R_drew)); exact HL.out) (Kd.R_base ho0) hb); have n5_ := Aside0.mk (show ∀ k_, (v5 : Value).ownBlock = some k_ → w.heap.size ≤ k_ from fun k_ e_ => Nat.le_trans (show w.heap.size ≤ _ from (by repeat (first | (with_reducible first | exact HK.out | apply Kept.alloc | apply Kept.drewN | apply Kept.drew) | exact HK.out) : Kept w _ (fun k_ => uo.ownBlock = some k_)).1) (Kd.R_base ho0 k_ e_)); have n4_ := Aside0.mk (Kept.below (by repeat (first | (with_reducible first | exact HK.out | apply Kept.alloc | apply Kept.drewN | apply Kept.drew) | exact HK.out) : Kept w _ (fun k_ => uo.ownBlock = some k_)) hb); clear HS_0 HL HB HK; have HS5 := n0_; have HC5 := n1_; have HB := n2_; have HL5 := n3_; have HK := n4_; have HF5 := n5_; clear n0_ n1_ n2_ n3_ n4_ n5_; clear hb ho0; obtain ⟨Ao5, co5, eo5⟩ := Kd.R_slice HC5.out; subst eo5) | ((with_reducible refine gate_builtin (b := .append) (xs := #[.tmp 37, .tmp 39]) rfl ?_); at_builtin; refine Kd.R_append (Kd.int .i64) (w0 := w0) w0.heap.size rfl (.tmp 37) (.tmp 39) 22 3 (.int .i64 0) 8 rfl Try.underlying22 info3 rfl (by decide) (by omega) (.slice Ao5 l1.length co5) l1 x9_1 [.int .i64 x9_1] (fun _ => True) (fun _ => False) rfl rfl ?aP (fun _ hk => hk.elim) ?aF ?aO ?aB ?aS ?aL ?_; (case aP => exact rfl); (case aB => exact (by repeat (first | (with_reducible first | exact HB.out | apply below_alloc | apply pw_below_drewN | apply below_drew1) | exact HB.out))); (case aF => exact (fun _ _ => trivial)); (case aO => exact (by (with_reducible repeat (first | apply Kd.R_alloc | apply Kd.R_drewN | apply Kd.R_drew)); exact HC5.out)); (case aS => exact (below_size (by repeat (first | (with_reducible first | exact HB.out | apply below_alloc | apply pw_below_drewN | apply below_drew1) | exact HB.out)))); (case aL => have := LM.out; omega); intro v6 w6 ho hb hg hat; rw [← Ny9.out] at ho; have n0_ := Aside0.mk (Kd.S_mono (ok' := fun _ => True) (Kd.S_after (ok := (fun _ => True)) (by (with_reducible repeat (first | apply Kd.S_alloc | apply Kd.S_drewN | apply Kd.S_drew)); exact HS5.out) hg hat) (fun _ _ => trivial)); have n1_ := Aside0.mk (Kd.R_mono (ok' := fun _ => True) (Kd.R_after (ok := (fun _ => True)) (by (with_reducible repeat (first | apply Kd.R_alloc | apply Kd.R_drewN | apply Kd.R_drew)); exact HL5.out) hg hat) (fun _ _ => trivial)); have n2_ := Aside0.mk (Kept.of_grown (S := (fun k_ => uo.ownBlock = some k_)) hg (by repeat (first | (with_reducible first | exact HK.out | apply Kept.alloc | apply Kept.drewN | apply Kept.drew) | exact HK.out)) (fun k_ e_ => .inr (HF5.out k_ e_))); have n3_ := Aside0.mk ho; have n4_ := Aside0.mk hb; clear HS5 HL5 HK HB HC5 HF5; have HS_0 := n0_; have HL := n1_; have HK := n2_; have HC6 := n3_; have HB := n4_; clear n0_ n1_ n2_ n3_ n4_; clear ho hb hg hat; obtain ⟨Ao6, co6, eo6⟩ := Kd.R_slice HC6.out; subst eo6) | ((with_reducible refine gate_callee (f := 26) rfl ?_); refine goesL_ (some 47) rfl rfl Try.func26 (by kernel_rfl) rfl #[u0, .slice Ao6 y9.length co6, .int .i64 (wrap64 (a2 - 1)), .int .i64 (wrap64 ((wrap64 (a3 - 1)) + x9_1))] rfl (by (try simp only [List.map_toArray, List.map_cons, List.map_nil]); first | done | rfl | (simp only [List.length_drop, List.length_take]; rfl)) ?_; (with_reducible refine (ih k1 (by have := HK1.out; omega) u0 (.slice Ao6 y9.length co6) x0_1 y9 (wrap64 (a2 - 1)) (wrap64 ((wrap64 (a3 - 1)) + x9_1)) t9 w0 _ ?side1 ?side2 ?side3 A9.out).mono ?_); (case side1 => repeat (first | (with_reducible first | exact HB.out | apply below_alloc | apply pw_below_drewN | apply below_drew1) | exact HB.out)); (case side2 => exact (by (with_reducible repeat (first | apply Kd.S_alloc | apply Kd.S_drewN | apply Kd.S_drew)); exact HS_0.out)); (case side3 => exact (by (with_reducible repeat (first | apply Kd.R_alloc | apply Kd.R_drewN | apply Kd.R_drew)); exact HC6.out)); rintro e w9 ⟨v9, rfl, hs9, hb9, hk9, hv9⟩; refine ⟨_, rfl, ?_⟩; have n1_ := Aside0.mk (Kd.R_mono (ok' := fun _ => True) (Kd.R_kept (Kd.R_apart' (by (with_reducible repeat (first | apply Kd.R_alloc | apply Kd.R_drewN | apply Kd.R_drew)); exact HL.out) (Kd.S_typed (by (with_reducible repeat (first | apply Kd.S_alloc | apply Kd.S_drewN | apply Kd.S_drew)); exact HS_0.out)) (by decide)) hk9 (fun k_ hk_ hs_ => hk_.2 hs_.symm)) (fun _ _ => trivial)); have n2_ := Aside0.mk (show ∀ k_, (v9 : Value).ownBlock = some k_ → uo.ownBlock = some k_ ∨ w.heap.size ≤ k_ from fun k_ e_ => (hv9 k_ e_).elim (fun q_ => HV.out k_ q_) (fun q_ => .inr (Nat.le_trans (by repeat (first | (with_reducible first | exact HK.out | apply Kept.alloc | apply Kept.drewN | apply Kept.drew) | exact HK.out) : Kept w _ (fun k_ => uo.ownBlock = some k_)).1 q_))); have n3_ := Aside0.mk (Kept.then_ (S := (fun k_ => uo.ownBlock = some k_)) (by repeat (first | (with_reducible first | exact HK.out | apply Kept.alloc | apply Kept.drewN | apply Kept.drew) | exact HK.out)) hk9 (fun k_ q_ => HV.out k_ q_)); have n4_ := Aside0.mk hs9; have n5_ := Aside0.mk hb9; clear HS_0 HL HK HB HC6 HV; have HL := n1_; have HV := n2_; have HK := n3_; have HS_0 := n4_; have HB := n5_; clear n1_ n2_ n3_ n4_ n5_; clear hs9 hb9 hk9 hv9))
              go_roundg k1
              case measure => have := HK1.out; omega
              case rel => exact ⟨t9, (wrap64 (x9_1 + 1)), rfl, H', ⟨by have := HK1.out; omega⟩, ⟨(by (with_reducible repeat (first | apply Kd.S_alloc | apply Kd.S_drewN | apply Kd.S_drew)); exact HS_0.out)⟩, ⟨(by (with_reducible repeat (first | apply Kd.R_alloc | apply Kd.R_drewN | apply Kd.R_drew)); exact HL.out)⟩, ⟨by repeat (first | (with_reducible first | exact HK.out | apply Kept.alloc | apply Kept.drewN | apply Kept.drew) | exact HK.out)⟩, HV, ⟨by repeat (first | (with_reducible first | exact HB.out | apply below_alloc | apply pw_below_drewN | apply below_drew1) | exact HB.out)⟩⟩
            · rw [if_neg d6] at H; cases H
          · rw [if_neg d5] at H
            have d5b0 : decide (0 < wrap64 (wrap64 (a3 - 1) + x9_1)) = false := decide_eq_false d5
            clear d5
            by_cases d7 : a2 = 1
            · rw [if_pos d7] at H
              have d7b0 : (a2 == 1) = true := beq_iff_eq.mpr d7
              clear d7
              by_cases d6 : l1.length < 17592186044415
              · rw [if_pos d6] at H
                have AC := Aside0.mk (cloneEq l1 (by omega))
                have LM := Aside0.mk d6
                clear d6
                obtain ⟨t9, A90, H⟩ := Option.bind_eq_some_iff.mp H
                replace H : (impl_growTrees.l0 k1 t9 l1 a2 a3 (wrap64 (x9_1 + 1))) = some r := H
                obtain ⟨y9, hy9⟩ : ∃ y_ : List Int, y_ = l1 ++ [x9_1] := ⟨_, rfl⟩
                rw [← hy9] at A90
                have Ny9 := Aside0.mk hy9
                have A9 := Aside0.mk A90
                clear hy9
                clear A90
                have H' := Aside0.mk H
                clear H
                go_wp2_with (first | ((with_reducible refine gate_callee (f := 34) rfl ?_); refine goesL_ (some 37) rfl rfl Try.func34 (by kernel_rfl) rfl #[.slice A1 l1.length c1] rfl (by (try simp only [List.map_toArray, List.map_cons, List.map_nil]); first | done | rfl | (simp only [List.length_drop, List.length_take]; rfl)) ?_; (with_reducible refine (slices_Clone_int_int.calls _ _ l1 l1 _ ?side1 ?side2 AC.out).mono ?_); (case side1 => repeat (first | exact (Kd.R_reads' HL.out).2.2 | (with_reducible refine Kd.C_alloc ?_ _) | (with_reducible refine Kd.C_drewN ?_ _) | (with_reducible refine Kd.C_drew ?_))); (case side2 => exact (Kd.R_reads' HL.out).2.1); rintro e w5 ⟨v5, rfl, ho0, hb⟩; refine ⟨_, rfl, ?_⟩; have n0_ := Aside0.mk (Kd.S_elder' (by (with_reducible repeat (first | apply Kd.S_alloc | apply Kd.S_drewN | apply Kd.S_drew)); exact HS_0.out) (Kd.R_base ho0) hb); have n1_ := Aside0.mk (Kd.R_lower ho0 (below_size (by repeat (first | (with_reducible first | exact HB.out | apply below_alloc | apply pw_below_drewN | apply below_drew1) | exact HB.out)))); have n2_ := Aside0.mk (below_step (by repeat (first | (with_reducible first | exact HB.out | apply below_alloc | apply pw_below_drewN | apply below_drew1) | exact HB.out)) hb); have n3_ := Aside0.mk (Kd.R_elder' (by (with_reducible repeat (first | apply Kd.R_alloc | apply Kd.R_drewN | apply Kd.R_drew)); exact HL.out) (Kd.R_base ho0) hb); have n5_ := Aside0.mk (show ∀ k_, (v5 : Value).ownBlock = some k_ → w.heap.size ≤ k_ from fun k_ e_ => Nat.le_trans (show w.heap.size ≤ _ from (by repeat (first | (with_reducible first | exact HK.out | apply Kept.alloc | apply Kept.drewN | apply Kept.drew) | exact HK.out) : Kept w _ (fun k_ => uo.ownBlock = some k_)).1) (Kd.R_base ho0 k_ e_)); have n4_ := Aside0.mk (Kept.below (by repeat (first | (with_reducible first | exact HK.out | apply Kept.alloc | apply Kept.drewN | apply Kept.drew) | exact HK.out) : Kept w _ (fun k_ => uo.ownBlock = some k_)) hb); clear HS_0 HL HB HK; have HS5 := n0_; have HC5 := n1_; have HB := n2_; have HL5 := n3_; have HK := n4_; have HF5 := n5_; clear n0_ n1_ n2_ n3_ n4_ n5_; clear hb ho0; obtain ⟨Ao5, co5, eo5⟩ := Kd.R_slice HC5.out; subst eo5) | ((with_reducible refine gate_builtin (b := .append) (xs := #[.tmp 37, .tmp 39]) rfl ?_); at_builtin; refine Kd.R_append (Kd.int .i64) (w0 := w0) w0.heap.size rfl (.tmp 37) (.tmp 39) 22 3 (.int .i64 0) 8 rfl Try.underlying22 info3 rfl (by decide) (by omega) (.slice Ao5 l1.length co5) l1 x9_1 [.int .i64 x9_1] (fun _ => True) (fun _ => False) rfl rfl ?aP (fun _ hk => hk.elim) ?aF ?aO ?aB ?aS ?aL ?_; (case aP => exact rfl); (case aB => exact (by repeat (first | (with_reducible first | exact HB.out | apply below_alloc | apply pw_below_drewN | apply below_drew1) | exact HB.out))); (case aF => exact (fun _ _ => trivial)); (case aO => exact (by (with_reducible repeat (first | apply Kd.R_alloc | apply Kd.R_drewN | apply Kd.R_drew)); exact HC5.out)); (case aS => exact (below_size (by repeat (first | (with_reducible first | exact HB.out | apply below_alloc | apply pw_below_drewN | apply below_drew1) | exact HB.out)))); (case aL => have := LM.out; omega); intro v6 w6 ho hb hg hat; rw [← Ny9.out] at ho; have n0_ := Aside0.mk (Kd.S_mono (ok' := fun _ => True) (Kd.S_after (ok := (fun _ => True)) (by (with_reducible repeat (first | apply Kd.S_alloc | apply Kd.S_drewN | apply Kd.S_drew)); exact HS5.out) hg hat) (fun _ _ => trivial)); have n1_ := Aside0.mk (Kd.R_mono (ok' := fun _ => True) (Kd.R_after (ok := (fun _ => True)) (by (with_reducible repeat (first | apply Kd.R_alloc | apply Kd.R_drewN | apply Kd.R_drew)); exact HL5.out) hg hat) (fun _ _ => trivial)); have n2_ := Aside0.mk (Kept.of_grown (S := (fun k_ => uo.ownBlock = some k_)) hg (by repeat (first | (with_reducible first | exact HK.out | apply Kept.alloc | apply Kept.drewN | apply Kept.drew) | exact HK.out)) (fun k_ e_ => .inr (HF5.out k_ e_))); have n3_ := Aside0.mk ho; have n4_ := Aside0.mk hb; clear HS5 HL5 HK HB HC5 HF5; have HS_0 := n0_; have HL := n1_; have HK := n2_; have HC6 := n3_; have HB := n4_; clear n0_ n1_ n2_ n3_ n4_; clear ho hb hg hat; obtain ⟨Ao6, co6, eo6⟩ := Kd.R_slice HC6.out; subst eo6) | ((with_reducible refine gate_callee (f := 26) rfl ?_); refine goesL_ (some 47) rfl rfl Try.func26 (by kernel_rfl) rfl #[u0, .slice Ao6 y9.length co6, .int .i64 (wrap64 (a2 - 1)), .int .i64 (wrap64 ((wrap64 (a3 - 1)) + x9_1))] rfl (by (try simp only [List.map_toArray, List.map_cons, List.map_nil]); first | done | rfl | (simp only [List.length_drop, List.length_take]; rfl)) ?_; (with_reducible refine (ih k1 (by have := HK1.out; omega) u0 (.slice Ao6 y9.length co6) x0_1 y9 (wrap64 (a2 - 1)) (wrap64 ((wrap64 (a3 - 1)) + x9_1)) t9 w0 _ ?side1 ?side2 ?side3 A9.out).mono ?_); (case side1 => repeat (first | (with_reducible first | exact HB.out | apply below_alloc | apply pw_below_drewN | apply below_drew1) | exact HB.out)); (case side2 => exact (by (with_reducible repeat (first | apply Kd.S_alloc | apply Kd.S_drewN | apply Kd.S_drew)); exact HS_0.out)); (case side3 => exact (by (with_reducible repeat (first | apply Kd.R_alloc | apply Kd.R_drewN | apply Kd.R_drew)); exact HC6.out)); rintro e w9 ⟨v9, rfl, hs9, hb9, hk9, hv9⟩; refine ⟨_, rfl, ?_⟩; have n1_ := Aside0.mk (Kd.R_mono (ok' := fun _ => True) (Kd.R_kept (Kd.R_apart' (by (with_reducible repeat (first | apply Kd.R_alloc | apply Kd.R_drewN | apply Kd.R_drew)); exact HL.out) (Kd.S_typed (by (with_reducible repeat (first | apply Kd.S_alloc | apply Kd.S_drewN | apply Kd.S_drew)); exact HS_0.out)) (by decide)) hk9 (fun k_ hk_ hs_ => hk_.2 hs_.symm)) (fun _ _ => trivial)); have n2_ := Aside0.mk (show ∀ k_, (v9 : Value).ownBlock = some k_ → uo.ownBlock = some k_ ∨ w.heap.size ≤ k_ from fun k_ e_ => (hv9 k_ e_).elim (fun q_ => HV.out k_ q_) (fun q_ => .inr (Nat.le_trans (by repeat (first | (with_reducible first | exact HK.out | apply Kept.alloc | apply Kept.drewN | apply Kept.drew) | exact HK.out) : Kept w _ (fun k_ => uo.ownBlock = some k_)).1 q_))); have n3_ := Aside0.mk (Kept.then_ (S := (fun k_ => uo.ownBlock = some k_)) (by repeat (first | (with_reducible first | exact HK.out | apply Kept.alloc | apply Kept.drewN | apply Kept.drew) | exact HK.out)) hk9 (fun k_ q_ => HV.out k_ q_)); have n4_ := Aside0.mk hs9; have n5_ := Aside0.mk hb9; clear HS_0 HL HK HB HC6 HV; have HL := n1_; have HV := n2_; have HK := n3_; have HS_0 := n4_; have HB := n5_; clear n1_ n2_ n3_ n4_ n5_; clear hs9 hb9 hk9 hv9))
                go_roundg k1
                case measure => have := HK1.out; omega
                case rel => exact ⟨t9, (wrap64 (x9_1 + 1)), rfl, H', ⟨by have := HK1.out; omega⟩, ⟨(by (with_reducible repeat (first | apply Kd.S_alloc | apply Kd.S_drewN | apply Kd.S_drew)); exact HS_0.out)⟩, ⟨(by (with_reducible repeat (first | apply Kd.R_alloc | apply Kd.R_drewN | apply Kd.R_drew)); exact HL.out)⟩, ⟨by repeat (first | (with_reducible first | exact HK.out | apply Kept.alloc | apply Kept.drewN | apply Kept.drew) | exact HK.out)⟩, HV, ⟨by repeat (first | (with_reducible first | exact HB.out | apply below_alloc | apply pw_below_drewN | apply below_drew1) | exact HB.out)⟩⟩
              · rw [if_neg d6] at H; cases H
            · rw [if_neg d7] at H
              have d7b0 : (a2 == 1) = false := beq_eq_false_iff_ne.mpr d7
              clear d7
              have H' := Aside0.mk H
              clear H
              go_wp2
              go_roundg k1
              case measure => have := HK1.out; omega
              case rel => exact ⟨x0_1, (wrap64 (x9_1 + 1)), rfl, H', ⟨by have := HK1.out; omega⟩, ⟨(by (with_reducible repeat (first | apply Kd.S_alloc | apply Kd.S_drewN | apply Kd.S_drew)); exact HS_0.out)⟩, ⟨(by (with_reducible repeat (first | apply Kd.R_alloc | apply Kd.R_drewN | apply Kd.R_drew)); exact HL.out)⟩, ⟨by repeat (first | (with_reducible first | exact HK.out | apply Kept.alloc | apply Kept.drewN | apply Kept.drew) | exact HK.out)⟩, HV, ⟨by repeat (first | (with_reducible first | exact HB.out | apply below_alloc | apply pw_below_drewN | apply below_drew1) | exact HB.out)⟩⟩
        · rw [if_neg d4] at H
          have d4b0 : decide (wrap64 (wrap64 (a3 - 1) + x9_1) ≤ wrap64 (a2 - 1)) = false := decide_eq_false d4
          clear d4
          obtain rfl := Option.some.inj H
          go_wp2
          go_ret
          exact ⟨_, rfl, (by (with_reducible repeat (first | apply Kd.S_alloc | apply Kd.S_drewN | apply Kd.S_drew)); exact HS_0.out), by repeat (first | (with_reducible first | exact HB.out | apply below_alloc | apply pw_below_drewN | apply below_drew1) | exact HB.out), by repeat (first | (with_reducible first | exact HK.out | apply Kept.alloc | apply Kept.drewN | apply Kept.drew) | exact HK.out), HV.out⟩

theorem impl_growTrees.mono_l : ∀ k, (∀ y0 y1 y2 y3 y4, LeO (impl_growTrees.l0 k y0 y1 y2 y3 y4) (impl_growTrees.l0 (k + 1) y0 y1 y2 y3 y4)) ∧ (∀ y0 y1 y2 y3, LeO (impl_growTrees.f k y0 y1 y2 y3) (impl_growTrees.f (k + 1) y0 y1 y2 y3))
  | 0 => ⟨fun _ _ _ _ _ r h => by simp [impl_growTrees.l0] at h, fun _ _ _ _ r h => by simp [impl_growTrees.f] at h⟩
  | k + 1 => by
    obtain ⟨ih0, ih1⟩ := impl_growTrees.mono_l k
    refine ⟨?_, ?_⟩
    · intro y0 y1 y2 y3 y4
      unfold impl_growTrees.l0
      repeat' first
      | (with_reducible exact ih0 _ _ _ _ _)
      | (with_reducible exact ih1 _ _ _ _)
      | (with_reducible exact LeO.refl _)
      | (with_reducible exact LeO.none _)
      | (with_reducible refine LeO.ite ?_ ?_)
      | (with_reducible refine LeO.bind ?_ (fun _ => ?_))
    · intro y0 y1 y2 y3
      unfold impl_growTrees.f
      repeat' first
      | (with_reducible exact ih0 _ _ _ _ _)
      | (with_reducible exact LeO.refl _)
      | (with_reducible exact LeO.none _)
      | (with_reducible refine LeO.ite ?_ ?_)
      | (with_reducible refine LeO.bind ?_ (fun _ => ?_))
/-! ### impl_AllTrees: function 15 -/
def impl_AllTrees.f (k : Nat) (a0 : Int) : Option ((List (List Int)) × Bool) := (impl_in.f a0 1 7).bind fun t => (if t = true then ((impl_growTrees.f k [] [] a0 1).bind fun r => (some (r, true))) else (some (([] : List (List Int)), false)))
theorem impl_AllTrees.mono : ∀ a0 k, LeO (impl_AllTrees.f k a0) (impl_AllTrees.f (k + 1) a0) := by
  intro a0 k
  unfold impl_AllTrees.f
  refine LeO.bind (LeO.refl _) (fun t => ?_)
  refine LeO.ite ?_ (LeO.refl _)
  exact LeO.bind ((impl_growTrees.mono_l k).2 _ _ _ _) (fun _ => LeO.refl _)
set_option maxHeartbeats 8000000 in
set_option maxRecDepth 100000 in
theorem impl_AllTrees.calls (k : Nat) (a0 : Int) (r1 : List (List Int)) (r2 : Bool) (w : World) (h : impl_AllTrees.f k a0 = some (r1, r2)) :
    Calls Try.prog 15 #[.int .i64 a0] w fun e w' => ∃ v0_ : Value, e = .returned (.tuple #[v0_, .bool r2]) ∧ Kd.S (Kd.slice 3 (Kd.int .i64)) 22 w' w.heap.size (fun _ => True) v0_ r1 ∧ Below w.heap.size w w' := by
  have HB := Aside0.mk (Below.refl w.heap.size w)
  unfold impl_AllTrees.f at h
  obtain ⟨t, A20, H⟩ := Option.bind_eq_some_iff.mp h
  clear h
  have A2 := Aside0.mk A20
  clear A20
  cases t with
  | true =>
    simp only [if_true] at H
    obtain ⟨t1, A40, H⟩ := Option.bind_eq_some_iff.mp H
    have A4 := Aside0.mk A40
    clear A40
    simp only [Option.some.injEq, Prod.mk.injEq] at H
    obtain ⟨rfl, rfl⟩ := H
    go_enter Try.func15, Try.ntmps15
    go_wp2_with (first | ((with_reducible refine gate_callee (f := 25) rfl ?_); refine goesL_ (some 5) rfl rfl Try.func25 (by kernel_rfl) rfl #[.int .i64 a0, .int .i64 1, .int .i64 7] rfl (by (try simp only [List.map_toArray, List.map_cons, List.map_nil]); first | done | rfl) ?_; (with_reducible refine (impl_in.calls a0 1 7 true _ A2.out).mono ?_); rintro e w' ⟨rfl, ⟨nd, rfl⟩⟩; refine ⟨_, rfl, ?_⟩) | ((with_reducible refine gate_callee (f := 26) rfl ?_); refine goesL_ (some 8) rfl rfl Try.func26 (by kernel_rfl) rfl #[.slice none 0 0, .slice none 0 0, .int .i64 a0, .int .i64 1] rfl (by (try simp only [List.map_toArray, List.map_cons, List.map_nil]); first | done | rfl) ?_; (with_reducible refine (impl_growTrees.calls k (.slice none 0 0) (.slice none 0 0) [] [] a0 1 t1 w _ ?side1 (Kd.S_nil _ _ _ _ _) (Kd.R_nil _ _ _ _ _) A4.out).mono ?_); (case side1 => repeat (first | (with_reducible first | exact HB.out | apply below_alloc | apply pw_below_drewN | apply below_drew1) | exact HB.out)); rintro e w9 ⟨v9, rfl, hs9, hb9, hk9, hv9⟩; refine ⟨_, rfl, ?_⟩; have HS := Aside0.mk hs9; clear HB; have HB := Aside0.mk hb9; clear hs9 hb9 hk9 hv9))
    go_ret2
    exact ⟨_, rfl, by (with_reducible repeat (first | apply Kd.S_alloc | apply Kd.S_drewN | apply Kd.S_drew)); exact HS.out, by repeat (first | (with_reducible first | exact HB.out | apply below_alloc | apply pw_below_drewN | apply below_drew1) | exact HB.out)⟩
  | false =>
    simp only [Bool.false_eq_true, if_false, Option.some.injEq, Prod.mk.injEq] at H
    obtain ⟨rfl, rfl⟩ := H
    go_enter Try.func15, Try.ntmps15
    go_wp2_with (first | ((with_reducible refine gate_callee (f := 25) rfl ?_); refine goesL_ (some 5) rfl rfl Try.func25 (by kernel_rfl) rfl #[.int .i64 a0, .int .i64 1, .int .i64 7] rfl (by (try simp only [List.map_toArray, List.map_cons, List.map_nil]); first | done | rfl) ?_; (with_reducible refine (impl_in.calls a0 1 7 false _ A2.out).mono ?_); rintro e w' ⟨rfl, ⟨nd, rfl⟩⟩; refine ⟨_, rfl, ?_⟩))
    go_ret2
    exact ⟨_, rfl, Kd.S_nil _ _ _ _ _, by repeat (first | (with_reducible first | exact HB.out | apply below_alloc | apply pw_below_drewN | apply below_drew1) | exact HB.out)⟩

/-! ### laws_markIntSS: function 12 -/
def laws_markIntSS.l0 : Nat → List (List Int) → Int → Int → Option (Int × List (List Int))
  | 0, _, _, _ => none
  | k + 1, x0, x1, x5 => if x5 < (x0.length : Int) then (if 0 ≤ x5 then ((laws_markIntS.f k (rd_L1 x0 x5) x1).bind fun bt => (laws_markIntSS.l0 k (x0.set (x5 : Int).toNat bt.2) bt.1 (wrap64 (x5 + 1)))) else (none)) else (some (x1, x0))
def laws_markIntSS.f (k : Nat) (l0 : List (List Int)) (a1 : Int) : Option (Int × List (List Int)) := laws_markIntSS.l0 k l0 a1 0
set_option maxHeartbeats 8000000 in
set_option maxRecDepth 100000 in
theorem laws_markIntSS.calls (k : Nat) (P0_ : Nat → Prop) (u9000_ : Value) (l0 : List (List Int)) (a1 : Int) (r1 : Int) (r2 : List (List Int)) (w0 w : World) (hB : Below w0.heap.size w0 w) (ho0 : Kd.S (Kd.slice 3 (Kd.int .i64)) 22 w w0.heap.size P0_ u9000_ l0) (h : laws_markIntSS.f k l0 a1 = some (r1, r2)) :
    Calls Try.prog 12 #[u9000_, .int .i64 a1] w fun e w' => e = .returned (.int .i64 r1) ∧ Kd.S (Kd.slice 3 (Kd.int .i64)) 22 w' w0.heap.size P0_ u9000_ r2 ∧ Below w0.heap.size w0 w' ∧ Kept w w' (fun k_ => P0_ k_) := by
  have HO0 := Aside0.mk ho0
  have HK := Aside0.mk (Kept.refl w (fun k_ => P0_ k_))
  have HB := Aside0.mk hB
  clear hB ho0
  have H : (laws_markIntSS.l0 k l0 a1 0) = some (r1, r2) := h
  clear h
  have H' := Aside0.mk H
  clear H
  go_enter Try.func12, Try.ntmps12
  go_wp2
  go_loopg [1, 5] k (fun kq v1 v5 w' => ∃ (x0_1 : List (List Int)) (x1_1 : Int) (x5_1 : Int), v1 = .int .i64 x1_1 ∧ v5 = .int .i64 x5_1 ∧ Aside0 (laws_markIntSS.l0 kq x0_1 x1_1 x5_1 = some (r1, r2)) ∧ Aside0 (kq ≤ k) ∧ Aside0 (Kd.S (Kd.slice 3 (Kd.int .i64)) 22 w' w0.heap.size P0_ u9000_ x0_1) ∧ Aside0 (Kept w w' (fun k_ => P0_ k_)) ∧ Aside0 (Below w0.heap.size w0 w'))
  case atStart => exact ⟨(l0), (a1), (0), (by first | rfl | (simp; done) | (simp [*]; done)), (by first | rfl | (simp; done) | (simp [*]; done)), H', ⟨Nat.le_refl _⟩, ⟨by (with_reducible repeat (first | apply Kd.S_alloc | apply Kd.S_drewN | apply Kd.S_drew)); exact HO0.out⟩, ⟨by repeat (first | (with_reducible first | exact HK.out | apply Kept.alloc | apply Kept.drewN | apply Kept.drew) | exact HK.out)⟩, ⟨by repeat (first | (with_reducible first | exact HB.out | apply below_alloc | apply pw_below_drewN | apply below_drew1) | exact HB.out)⟩⟩
  case round =>
    clear H'
    try clear c1
    try clear p2
    obtain ⟨x0_1, x1_1, x5_1, rfl, rfl, HA, HK1, HO_0, HK, HB⟩ := hrel
    cases gk with
    | zero => exact absurd HA.out (by simp [laws_markIntSS.l0])
    | succ k1 =>
      have H := HA.out
      clear HA
      simp only [laws_markIntSS.l0] at H
      by_cases c3 : x5_1 < (x0_1.length : Int)
      · rw [if_pos c3] at H
        have c3b0 : decide (x5_1 < (x0_1.length : Int)) = true := decide_eq_true c3
        clear c3
        by_cases c4 : 0 ≤ x5_1
        · rw [if_pos c4] at H
          have c4b0 : decide (0 ≤ x5_1) = true := decide_eq_true c4
          clear c4
          replace H := Option.bind_eq_some_iff.mp H
          obtain ⟨⟨t1, t2⟩, A50, H⟩ := H
          replace H : (laws_markIntSS.l0 k1 (x0_1.set (x5_1 : Int).toNat t2) t1 (wrap64 (x5_1 + 1))) = some (r1, r2) := H
          have A5 := Aside0.mk A50
          clear A50
          have H' := Aside0.mk H
          clear H
          have p5 : 0 ≤ (x5_1 : Int) := of_decide_eq_true (by first | (with_reducible assumption) | assumption)
          have q5 : (x5_1 : Int) < ((x0_1.length : Int) : Int) := of_decide_eq_true (by first | (with_reducible assumption) | assumption)
          obtain ⟨go5, co5, eo5, gb5, gl5, HG5⟩ := Kd.S_form HO_0.out (by omega)
          subst eo5
          clear gb5 gl5 HG5
          obtain ⟨oki, c5, hcl5, ⟨vi5, ec5, hR5⟩, hcc5, hoki5, hH5⟩ := Kd.S_lend HO_0.out ([] : List Int) x5_1 p5 q5
          subst ec5
          obtain ⟨Ai5, ci5, ei5⟩ := Kd.R_slice hR5
          subst ei5
          have hx5 : wr.cell? ⟨go5, (x5_1 : Int).toNat, none⟩ = some (.slice Ai5 (rd_L1 x0_1 x5_1).length ci5) := by
            have hq := hcc5 0 _ rfl
            rwa [show (Kd.slice 3 (Kd.int .i64)).sz = 1 from rfl, Nat.mul_one, Nat.add_zero] at hq
          have HRi := Aside0.mk hR5
          have HH := Aside0.mk hH5
          have HOK := Aside0.mk hoki5
          clear hR5 hH5 hcl5 hcc5 hoki5 HO_0
          replace p5 := eq_true p5
          replace q5 := eq_true q5
          go_wp2_with (first | ((with_reducible refine gate_callee (f := 11) rfl ?_); refine goesL_ (some 17) rfl rfl Try.func11 (by kernel_rfl) rfl #[.slice Ai5 (rd_L1 x0_1 x5_1).length ci5, .int .i64 x1_1] rfl (by (try simp only [List.map_toArray, List.map_cons, List.map_nil]); first | done | rfl | (simp only [List.length_drop, List.length_take]; rfl)) ?_; (with_reducible refine (laws_markIntS.calls k1 oki (.slice Ai5 (rd_L1 x0_1 x5_1).length ci5) (rd_L1 x0_1 x5_1) x1_1 t1 t2 w0 _ ?side1 ?side2 A5.out).mono ?_); (case side1 => repeat (first | (with_reducible first | exact HB.out | apply below_alloc | apply pw_below_drewN | apply below_drew1) | exact HB.out)); (case side2 => (with_reducible repeat (first | apply Kd.R_alloc | apply Kd.R_drewN | apply Kd.R_drew)); exact HRi.out); rintro e w9 ⟨rfl, hy0, hb, hkp⟩; refine ⟨_, rfl, ?_⟩; have n0_ := Aside0.mk (Kd.H_back (Kd.H_kept (by (with_reducible repeat (first | apply Kd.H_alloc | apply Kd.H_drewN | apply Kd.H_drew)); exact HH.out) hkp (fun k_ _ hn_ => hn_)) (Kd.M_row (Kd.R_reok rfl hy0 (fun k_ e_ => HRi.out.1 k_ e_))) (fun _ h_ => h_)); have n1_ := Aside0.mk (Kept.then_ (S := (fun k_ => P0_ k_)) (by repeat (first | (with_reducible first | exact HK.out | apply Kept.alloc | apply Kept.drewN | apply Kept.drew) | exact HK.out)) hkp (fun k_ h_ => .inl (HOK.out k_ h_).1)); have n2_ := Aside0.mk hb; clear HK HB HH HRi; have HO_0 := n0_; have HK := n1_; have HB := n2_; clear n0_ n1_ n2_; clear hb hkp hy0))
          go_roundg k1
          case measure => have := HK1.out; omega
          case rel => exact ⟨(x0_1.set (x5_1 : Int).toNat t2), t1, (wrap64 (x5_1 + 1)), (by first | rfl | (simp; done) | (simp [*]; done)), (by first | rfl | (simp; done) | (simp [*]; done)), H', ⟨by have := HK1.out; omega⟩, ⟨by (with_reducible repeat (first | apply Kd.S_alloc | apply Kd.S_drewN | apply Kd.S_drew)); exact HO_0.out⟩, ⟨by repeat (first | (with_reducible first | exact HK.out | apply Kept.alloc | apply Kept.drewN | apply Kept.drew) | exact HK.out)⟩, ⟨by repeat (first | (with_reducible first | exact HB.out | apply below_alloc | apply pw_below_drewN | apply below_drew1) | exact HB.out)⟩⟩
        · rw [if_neg c4] at H
          exact absurd H (by simp)
      · rw [if_neg c3] at H
        have c3b0 : decide (x5_1 < (x0_1.length : Int)) = false := decide_eq_false c3
        clear c3
        simp only [Option.some.injEq, Prod.mk.injEq] at H
        obtain ⟨rfl, rfl⟩ := H
        obtain ⟨Ao9, co9, eo9⟩ := Kd.S_slice HO_0.out
        subst eo9
        go_wp2
        go_ret
        exact ⟨by first | rfl | (simp [errW_none, errW_some] <;> rfl) | (simp [*, errW_none, errW_some] <;> rfl), by (with_reducible repeat (first | apply Kd.S_alloc | apply Kd.S_drewN | apply Kd.S_drew)); exact HO_0.out, by repeat (first | (with_reducible first | exact HB.out | apply below_alloc | apply pw_below_drewN | apply below_drew1) | exact HB.out), by repeat (first | (with_reducible first | exact HK.out | apply Kept.alloc | apply Kept.drewN | apply Kept.drew) | exact HK.out)⟩


set_option maxHeartbeats 8000000 in
set_option maxRecDepth 100000 in
theorem laws_FnExactAllTrees.calls (k : Nat) (a0 : Int) (w : World) (rs rs2 : List (List Int)) (b : Bool) (m : Int)
    (h2 : spec_AllTrees.f k a0 = some (rs, b)) (h3 : impl_AllTrees.f k a0 = some (rs, b)) (h4 : laws_eqIntSS.f k rs rs = some true)
    (h7 : laws_markIntSS.f k rs 1 = some (m, rs2)) (h8 : laws_heldIntSS.f k rs2 1 = some m) (hm : 0 ≤ m) (hl : rs2.length = rs.length) :
    Calls Try.prog 4 #[.int .i64 a0] w fun e w' => e = .returned (.bool true) ∧ Below w.heap.size w w' := by
  have HL := Aside0.mk hl
  have H2 := Aside0.mk h2
  have H3 := Aside0.mk h3
  have H4 := Aside0.mk h4
  have H7 := Aside0.mk h7
  have H8 := Aside0.mk h8
  have HB := Aside0.mk (Below.refl w.heap.size w)
  have c4b0 : decide (m < 0) = false := decide_eq_false (by omega)
  clear hl h2 h3 h4 h7 h8 hm
  go_enter Try.func4, Try.ntmps4
  go_wp2_with (first | ((with_reducible refine gate_callee (f := 14) rfl ?_); refine goesL_ (some 13) rfl rfl Try.func14 (by kernel_rfl) rfl #[.int .i64 a0] rfl (by (try simp only [List.map_toArray, List.map_cons, List.map_nil]); first | done | rfl | (simp only [List.length_drop, List.length_take]; rfl)) ?_; (with_reducible refine (spec_AllTrees.calls k  a0 rs b _  H2.out).mono ?_); rintro e w2 ⟨vb, rfl, ho0, hb⟩; refine ⟨_, rfl, ?_⟩; obtain ⟨nw2, hnw2⟩ : ∃ n_, n_ = w2.heap.size := ⟨_, rfl⟩; have mn_ := Aside0.mk (Kd.S_mono (ok' := (fun k_ => k_ < nw2)) (Kd.S_lower (Kd.S_bound ho0) (below_size (by repeat (first | (with_reducible first | exact HB.out | apply below_alloc | apply pw_below_drewN | apply below_drew1) | exact HB.out)))) (fun k_ hk_ => (show k_ < nw2 from (by rw [hnw2]; exact hk_.2.2.1)))); have mb_ := Aside0.mk (below_step (by repeat (first | (with_reducible first | exact HB.out | apply below_alloc | apply pw_below_drewN | apply below_drew1) | exact HB.out)) hb); clear HB ; have HB := mb_; have Fb := mn_; clear mn_ mb_ ; clear hb ho0; obtain ⟨Aob, cob, eob⟩ := Kd.S_slice Fb.out; subst eob) | ((with_reducible refine gate_callee (f := 15) rfl ?_); refine goesL_ (some 18) rfl rfl Try.func15 (by kernel_rfl) rfl #[.int .i64 a0] rfl (by (try simp only [List.map_toArray, List.map_cons, List.map_nil]); first | done | rfl | (simp only [List.length_drop, List.length_take]; rfl)) ?_; (with_reducible refine (impl_AllTrees.calls k  a0 rs b _  H3.out).mono ?_); rintro e w4 ⟨vd, rfl, ho0, hb⟩; refine ⟨_, rfl, ?_⟩; obtain ⟨nw4, hnw4⟩ : ∃ n_, n_ = w4.heap.size := ⟨_, rfl⟩; have m0_ := Aside0.mk (Kd.S_below (by (with_reducible repeat (first | apply Kd.S_alloc | apply Kd.S_drewN | apply Kd.S_drew)); exact Fb.out) hb); have mn_ := Aside0.mk (Kd.S_mono (ok' := (fun k_ => nw2 ≤ k_)) (Kd.S_lower (Kd.S_bound ho0) (below_size (by repeat (first | (with_reducible first | exact HB.out | apply below_alloc | apply pw_below_drewN | apply below_drew1) | exact HB.out)))) (fun k_ hk_ => (show nw2 ≤ k_ from (by rw [hnw2]; exact hk_.2.1)))); have mb_ := Aside0.mk (below_step (by repeat (first | (with_reducible first | exact HB.out | apply below_alloc | apply pw_below_drewN | apply below_drew1) | exact HB.out)) hb); clear HB Fb; have HB := mb_; have Fb := m0_; have Fd := mn_; clear mn_ mb_ m0_; clear hb ho0; obtain ⟨Aod, cod, eod⟩ := Kd.S_slice Fd.out; subst eod) | ((with_reducible refine gate_callee (f := 9) rfl ?_); refine goesL_ (some 23) rfl rfl Try.func9 (by kernel_rfl) rfl #[.slice Aod rs.length cod, .slice Aob rs.length cob] rfl (by (try simp only [List.map_toArray, List.map_cons, List.map_nil]); first | done | rfl | (simp only [List.length_drop, List.length_take]; rfl)) ?_; (with_reducible refine (laws_eqIntSS.calls k _ _ rs _ _ rs true _ ?side1 ?side2 ?side3 ?side4 H4.out).mono ?_); (case side1 => repeat (first | exact (Kd.S_reads' Fd.out).2.2 | (with_reducible refine Kd.C_alloc ?_ _) | (with_reducible refine Kd.C_drewN ?_ _) | (with_reducible refine Kd.C_drew ?_))); (case side2 => exact (Kd.S_reads' Fd.out).2.1); (case side3 => repeat (first | exact (Kd.S_reads' Fb.out).2.2 | (with_reducible refine Kd.C_alloc ?_ _) | (with_reducible refine Kd.C_drewN ?_ _) | (with_reducible refine Kd.C_drew ?_))); (case side4 => exact (Kd.S_reads' Fb.out).2.1); rintro e w' ⟨rfl, ⟨nd, rfl⟩⟩; refine ⟨_, rfl, ?_⟩) | ((with_reducible refine gate_callee (f := 12) rfl ?_); refine goesL_ (some 32) rfl rfl Try.func12 (by kernel_rfl) rfl #[.slice Aod rs.length cod, .int .i64 1] rfl (by (try simp only [List.map_toArray, List.map_cons, List.map_nil]); first | done | rfl | (simp only [List.length_drop, List.length_take]; rfl)) ?_; (with_reducible refine (laws_markIntSS.calls k (fun k_ => nw2 ≤ k_) (.slice Aod rs.length cod) rs 1 m rs2 w _ ?side1 ?side2 H7.out).mono ?_); (case side1 => repeat (first | (with_reducible first | exact HB.out | apply below_alloc | apply pw_below_drewN | apply below_drew1) | exact HB.out)); (case side2 => exact (by (with_reducible repeat (first | apply Kd.S_alloc | apply Kd.S_drewN | apply Kd.S_drew)); exact Fd.out)); rintro e w7 ⟨rfl, hy0, hb, hkp⟩; refine ⟨_, rfl, ?_⟩; have m0_ := Aside0.mk (Kd.S_kept (by (with_reducible repeat (first | apply Kd.S_alloc | apply Kd.S_drewN | apply Kd.S_drew)); exact Fb.out) hkp (fun k_ (hk_ : k_ < nw2) (hs_ : nw2 ≤ k_) => absurd hs_ (Nat.not_le.2 hk_))); have mb_ := Aside0.mk hb; have my_ := Aside0.mk hy0; clear HB Fb Fd; have HB := mb_; have Fb := m0_; have Fd := my_; clear my_ mb_ m0_; clear hb hkp hy0) | ((with_reducible refine gate_callee (f := 13) rfl ?_); refine goesL_ (some 35) rfl rfl Try.func13 (by kernel_rfl) rfl #[.slice Aod rs2.length cod, .int .i64 1] rfl (by (try simp only [List.map_toArray, List.map_cons, List.map_nil]); rw [HL.out] <;> rfl) ?_; (with_reducible refine (laws_heldIntSS.calls k _ _ rs2 1 m _ ?side1 ?side2 H8.out).mono ?_); (case side1 => repeat (first | exact (Kd.S_reads' Fd.out).2.2 | (with_reducible refine Kd.C_alloc ?_ _) | (with_reducible refine Kd.C_drewN ?_ _) | (with_reducible refine Kd.C_drew ?_))); (case side2 => (rw [HL.out]; exact (Kd.S_reads' Fd.out).2.1)); rintro e w' ⟨rfl, ⟨nd, rfl⟩⟩; refine ⟨_, rfl, ?_⟩) | ((with_reducible refine gate_callee (f := 15) rfl ?_); refine goesL_ (some 43) rfl rfl Try.func15 (by kernel_rfl) rfl #[.int .i64 a0] rfl (by (try simp only [List.map_toArray, List.map_cons, List.map_nil]); first | done | rfl | (simp only [List.length_drop, List.length_take]; rfl)) ?_; (with_reducible refine (impl_AllTrees.calls k  a0 rs b _  H3.out).mono ?_); rintro e w9 ⟨vm, rfl, ho0, hb⟩; refine ⟨_, rfl, ?_⟩; obtain ⟨nw9, hnw9⟩ : ∃ n_, n_ = w9.heap.size := ⟨_, rfl⟩; have m0_ := Aside0.mk (Kd.S_below (by (with_reducible repeat (first | apply Kd.S_alloc | apply Kd.S_drewN | apply Kd.S_drew)); exact Fb.out) hb); have m1_ := Aside0.mk (Kd.S_below (by (with_reducible repeat (first | apply Kd.S_alloc | apply Kd.S_drewN | apply Kd.S_drew)); exact Fd.out) hb); have mn_ := Aside0.mk (Kd.S_mono (ok' := (fun _ => True)) (Kd.S_lower (Kd.S_bound ho0) (below_size (by repeat (first | (with_reducible first | exact HB.out | apply below_alloc | apply pw_below_drewN | apply below_drew1) | exact HB.out)))) (fun k_ hk_ => trivial)); have mb_ := Aside0.mk (below_step (by repeat (first | (with_reducible first | exact HB.out | apply below_alloc | apply pw_below_drewN | apply below_drew1) | exact HB.out)) hb); clear HB Fb Fd; have HB := mb_; have Fb := m0_; have Fd := m1_; have Fm := mn_; clear mn_ mb_ m0_ m1_; clear hb ho0; obtain ⟨Aom, com, eom⟩ := Kd.S_slice Fm.out; subst eom) | ((with_reducible refine gate_callee (f := 9) rfl ?_); refine goesL_ (some 48) rfl rfl Try.func9 (by kernel_rfl) rfl #[.slice Aom rs.length com, .slice Aob rs.length cob] rfl (by (try simp only [List.map_toArray, List.map_cons, List.map_nil]); first | done | rfl | (simp only [List.length_drop, List.length_take]; rfl)) ?_; (with_reducible refine (laws_eqIntSS.calls k _ _ rs _ _ rs true _ ?side1 ?side2 ?side3 ?side4 H4.out).mono ?_); (case side1 => repeat (first | exact (Kd.S_reads' Fm.out).2.2 | (with_reducible refine Kd.C_alloc ?_ _) | (with_reducible refine Kd.C_drewN ?_ _) | (with_reducible refine Kd.C_drew ?_))); (case side2 => exact (Kd.S_reads' Fm.out).2.1); (case side3 => repeat (first | exact (Kd.S_reads' Fb.out).2.2 | (with_reducible refine Kd.C_alloc ?_ _) | (with_reducible refine Kd.C_drewN ?_ _) | (with_reducible refine Kd.C_drew ?_))); (case side4 => exact (Kd.S_reads' Fb.out).2.1); rintro e w' ⟨rfl, ⟨nd, rfl⟩⟩; refine ⟨_, rfl, ?_⟩) | ((with_reducible refine gate_callee (f := 13) rfl ?_); refine goesL_ (some 57) rfl rfl Try.func13 (by kernel_rfl) rfl #[.slice Aod rs2.length cod, .int .i64 1] rfl (by (try simp only [List.map_toArray, List.map_cons, List.map_nil]); rw [HL.out] <;> rfl) ?_; (with_reducible refine (laws_heldIntSS.calls k _ _ rs2 1 m _ ?side1 ?side2 H8.out).mono ?_); (case side1 => repeat (first | exact (Kd.S_reads' Fd.out).2.2 | (with_reducible refine Kd.C_alloc ?_ _) | (with_reducible refine Kd.C_drewN ?_ _) | (with_reducible refine Kd.C_drew ?_))); (case side2 => (rw [HL.out]; exact (Kd.S_reads' Fd.out).2.1)); rintro e w' ⟨rfl, ⟨nd, rfl⟩⟩; refine ⟨_, rfl, ?_⟩))
  go_ret
  exact ⟨by first | rfl | (simp; done) | (simp [*]; done), by repeat (first | (with_reducible first | exact HB.out | apply below_alloc | apply pw_below_drewN | apply below_drew1) | exact HB.out)⟩
/-- THE PURE STATEMENT of the law: what its calls tell, one by one. -/
def laws_FnExactAllTrees.Pure : Prop := ∀ (a0 : Int), (Lit.int .i64 a0).wf = true →
  ∃ (k : Nat) (rs rs2 : List (List Int)) (b : Bool) (m : Int), spec_AllTrees.f k a0 = some (rs, b) ∧ impl_AllTrees.f k a0 = some (rs, b) ∧ laws_eqIntSS.f k rs rs = some true ∧
    laws_markIntSS.f k rs 1 = some (m, rs2) ∧ laws_heldIntSS.f k rs2 1 = some m ∧ 0 ≤ m ∧ rs2.length = rs.length
theorem laws_FnExactAllTrees.walk (P : laws_FnExactAllTrees.Pure) (a0 : Int) (w : World) (w0 : (Lit.int .i64 a0).wf = true) :
    Calls Try.prog 4 #[.int .i64 a0] w fun e w' => e = .returned (.bool true) ∧ Below w.heap.size w w' := by
  obtain ⟨k, rs, rs2, b, m, h2, h3, h4, h7, h8, h9, h10⟩ := P a0 w0
  exact laws_FnExactAllTrees.calls k a0 w rs rs2 b m h2 h3 h4 h7 h8 h9 h10

end Go.Proofs.Ytlogghfgfokijaa.PFnExactAllTrees
