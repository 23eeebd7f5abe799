/- The walk of the statement FnExactRatioRotations: each Go function that it reaches does what the Lean function of its name says; printed by a program of this session. -/
import Derived.Test.YtglhnhinbdfpbaaDoorPFnExactRatioRotationsx0
namespace Go.Proofs.YtglhnhinbdfpbaaDoor.PFnExactRatioRotations
open Go.RowKit Go.Proofs.YtglhnhinbdfpbaaDoorW.PrintWords Go.Proofs.YtglhnhinbdfpbaaDoorW.PrintLast Go.Proofs.YtglhnhinbdfpbaaDoorW.PrintMore
attribute [local go_sem] max2_int min2_int max_two min_two max_three min_three max_four min_four   -- for this text's walks alone
set_option linter.unusedVariables false
set_option linter.unusedSimpArgs false

/-! ### spec_paGood: function 21 -/
def spec_paGood.l0 : Nat → ByteArray → Int → Option (Bool)
  | 0, _, _ => none
  | k + 1, x0, x3 => if x3 < (x0.size : Int) then (if 0 ≤ x3 then (if (bt x0 x3) = 85 then (spec_paGood.l0 k x0 (wrap64 (x3 + 1))) else (if (bt x0 x3) = 68 then (spec_paGood.l0 k x0 (wrap64 (x3 + 1))) else (some false))) else (none)) else (some true)
def spec_paGood.f (k : Nat) (a0 : ByteArray) : Option (Bool) := if (a0.size : Int) > 40 then (some false) else (spec_paGood.l0 k a0 0)
theorem spec_paGood.mono_l : ∀ k, (∀ y0 y1, LeO (spec_paGood.l0 k y0 y1) (spec_paGood.l0 (k + 1) y0 y1))
  | 0 => fun _ _ r h => by simp [spec_paGood.l0] at h
  | k + 1 => by
    have ih0 := spec_paGood.mono_l k
    · intro y0 y1
      unfold spec_paGood.l0
      repeat' first
      | (with_reducible exact ih0 _ _)
      | (with_reducible exact LeO.refl _)
      | (with_reducible exact LeO.none _)
      | (with_reducible refine LeO.ite ?_ ?_)
      | (with_reducible refine LeO.bind ?_ (fun _ => ?_))
      | exact ih0 _ _
      | exact LeO.none _
      | refine LeO.ite ?_ ?_
      | refine LeO.bind ?_ (fun _ => ?_)
theorem spec_paGood.mono : ∀ a0 k, LeO (spec_paGood.f k a0) (spec_paGood.f (k + 1) a0) := by
  intro a0 k
  have ih0 := spec_paGood.mono_l k
  unfold spec_paGood.f
  repeat' first
      | (with_reducible exact ih0 _ _)
      | (with_reducible exact LeO.refl _)
      | (with_reducible exact LeO.none _)
      | (with_reducible refine LeO.ite ?_ ?_)
      | (with_reducible refine LeO.bind ?_ (fun _ => ?_))
      | exact ih0 _ _
      | exact LeO.none _
      | refine LeO.ite ?_ ?_
      | refine LeO.bind ?_ (fun _ => ?_)
set_option maxHeartbeats 8000000 in
set_option maxRecDepth 100000 in
theorem spec_paGood.calls (k : Nat) (a0 : ByteArray) (r : Bool) (w : World) (h : spec_paGood.f k a0 = some r) :
    Calls Tryd.prog 21 #[.string a0] w fun e w' => e = .returned (.bool r) ∧ Drawn0 w w' := by
  have H : (if (a0.size : Int) > 40 then (some false) else (spec_paGood.l0 k a0 0)) = some r := h
  clear h
  by_cases c2 : (a0.size : Int) > 40
  · rw [if_pos c2] at H
    have c2b0 : decide (40 < (a0.size : Int)) = true := decide_eq_true c2
    have c2b1 : decide (40 < a0.size) = true := decide_eq_true (by omega)
    clear c2
    obtain rfl := Option.some.inj H
    go_enter Tryd.func21, Tryd.ntmps21
    go_wp2
    go_ret
    exact ⟨by first | rfl | (simp; done) | (simp [*]; done), by repeat (first | exact Drawn0.refl _ | apply Drawn0.step)⟩
  · rw [if_neg c2] at H
    have c2b0 : decide (40 < (a0.size : Int)) = false := decide_eq_false c2
    have c2b1 : decide (40 < a0.size) = false := decide_eq_false (by omega)
    clear c2
    have H' := Aside0.mk H
    clear H
    go_enter Tryd.func21, Tryd.ntmps21
    go_wp2
    go_loopg [3] k (fun kq v3 w' => ∃ (x3_1 : Int), v3 = .int .i64 x3_1 ∧ Aside0 (spec_paGood.l0 kq a0 x3_1 = some r) ∧ Aside0 (kq ≤ k) ∧ Drawn0 w w')
    case atStart => exact ⟨(0), (by first | rfl | (simp; done) | (simp [*]; done)), H', ⟨Nat.le_refl _⟩, by repeat (first | exact Drawn0.refl _ | apply Drawn0.step)⟩
    case round =>
      clear H'
      try clear c2
      try clear c2b0
      try clear c2b1
      try clear p2
      obtain ⟨x3_1, rfl, HA, HK1, ⟨m1, rfl⟩⟩ := hrel
      cases gk with
      | zero => exact absurd HA.out (by simp [spec_paGood.l0])
      | succ k1 =>
        have H := HA.out
        clear HA
        simp only [spec_paGood.l0] at H
        by_cases c3 : x3_1 < (a0.size : Int)
        · rw [if_pos c3] at H
          have c3b0 : decide (x3_1 < (a0.size : Int)) = true := decide_eq_true c3
          clear c3
          by_cases c4 : 0 ≤ x3_1
          · rw [if_pos c4] at H
            have c4b0 : decide (0 ≤ x3_1) = true := decide_eq_true c4
            clear c4
            by_cases c6 : (bt a0 x3_1) = 85
            · rw [if_pos c6] at H
              have c6b0 : ((bt a0 x3_1) == 85) = true := beq_iff_eq.mpr c6
              have c6b1 : ((bt a0 x3_1) != 85) = false := bne_eq_false_iff_eq.mpr c6
              clear c6
              have H' := Aside0.mk H
              clear H
              have p5 : 0 ≤ (x3_1 : Int) := of_decide_eq_true (by first | (with_reducible assumption) | assumption)
              have q5 : x3_1 < (a0.size : Int) := of_decide_eq_true (by first | (with_reducible assumption) | assumption)
              have hx5 := bt_at a0 x3_1
              replace p5 := eq_true p5
              replace q5 := eq_true q5
              go_wp2
              go_roundg k1
              case measure => have := HK1.out; omega
              case rel => exact ⟨(wrap64 (x3_1 + 1)), (by first | rfl | (simp; done) | (simp [*]; done)), H', ⟨by have := HK1.out; omega⟩, by repeat (first | exact Drawn0.refl _ | apply Drawn0.step)⟩
            · rw [if_neg c6] at H
              have c6b0 : ((bt a0 x3_1) == 85) = false := beq_eq_false_iff_ne.mpr c6
              have c6b1 : ((bt a0 x3_1) != 85) = true := bne_iff_ne.mpr c6
              by_cases c8 : (bt a0 x3_1) = 68
              · rw [if_pos c8] at H
                have c8b0 : ((bt a0 x3_1) == 68) = true := beq_iff_eq.mpr c8
                have c8b1 : ((bt a0 x3_1) != 68) = false := bne_eq_false_iff_eq.mpr c8
                clear c8
                have H' := Aside0.mk H
                clear H
                have p5 : 0 ≤ (x3_1 : Int) := of_decide_eq_true (by first | (with_reducible assumption) | assumption)
                have q5 : x3_1 < (a0.size : Int) := of_decide_eq_true (by first | (with_reducible assumption) | assumption)
                have hx5 := bt_at a0 x3_1
                replace p5 := eq_true p5
                replace q5 := eq_true q5
                have p7 : 0 ≤ (x3_1 : Int) := of_decide_eq_true (by first | (with_reducible assumption) | assumption)
                have q7 : x3_1 < (a0.size : Int) := of_decide_eq_true (by first | (with_reducible assumption) | assumption)
                have hx7 := bt_at a0 x3_1
                replace p7 := eq_true p7
                replace q7 := eq_true q7
                go_wp2
                go_roundg k1
                case measure => have := HK1.out; omega
                case rel => exact ⟨(wrap64 (x3_1 + 1)), (by first | rfl | (simp; done) | (simp [*]; done)), H', ⟨by have := HK1.out; omega⟩, by repeat (first | exact Drawn0.refl _ | apply Drawn0.step)⟩
              · rw [if_neg c8] at H
                have c8b0 : ((bt a0 x3_1) == 68) = false := beq_eq_false_iff_ne.mpr c8
                have c8b1 : ((bt a0 x3_1) != 68) = true := bne_iff_ne.mpr c8
                obtain rfl := Option.some.inj H
                have p5 : 0 ≤ (x3_1 : Int) := of_decide_eq_true (by first | (with_reducible assumption) | assumption)
                have q5 : x3_1 < (a0.size : Int) := of_decide_eq_true (by first | (with_reducible assumption) | assumption)
                have hx5 := bt_at a0 x3_1
                replace p5 := eq_true p5
                replace q5 := eq_true q5
                have p7 : 0 ≤ (x3_1 : Int) := of_decide_eq_true (by first | (with_reducible assumption) | assumption)
                have q7 : x3_1 < (a0.size : Int) := of_decide_eq_true (by first | (with_reducible assumption) | assumption)
                have hx7 := bt_at a0 x3_1
                replace p7 := eq_true p7
                replace q7 := eq_true q7
                go_wp2
                go_ret
                exact ⟨by first | rfl | (simp; done) | (simp [*]; done), by repeat (first | exact Drawn0.refl _ | apply Drawn0.step)⟩
          · rw [if_neg c4] at H
            exact absurd H (by simp)
        · rw [if_neg c3] at H
          have c3b0 : decide (x3_1 < (a0.size : Int)) = false := decide_eq_false c3
          clear c3
          obtain rfl := Option.some.inj H
          go_wp2
          go_ret
          exact ⟨by first | rfl | (simp; done) | (simp [*]; done), by repeat (first | exact Drawn0.refl _ | apply Drawn0.step)⟩

/-! ### spec_l1In: function 22 -/
def spec_l1In.f (a0 : Int) (a1 : Int) (a2 : Int) : Option (Bool) := if a0 ≥ a1 then (some (decide (a0 ≤ a2))) else (some false)
set_option maxHeartbeats 8000000 in
set_option maxRecDepth 100000 in
theorem spec_l1In.calls (a0 : Int) (a1 : Int) (a2 : Int) (r : Bool) (w : World) (h : spec_l1In.f a0 a1 a2 = some r) :
    Calls Tryd.prog 22 #[.int .i64 a0, .int .i64 a1, .int .i64 a2] w fun e w' => e = .returned (.bool r) ∧ Drawn0 w w' := by
  have H : (if a0 ≥ a1 then (some (decide (a0 ≤ a2))) else (some false)) = some r := h
  clear h
  by_cases c4 : a0 ≥ a1
  · rw [if_pos c4] at H
    have c4b0 : decide (a1 ≤ a0) = true := decide_eq_true c4
    clear c4
    obtain rfl := Option.some.inj H
    go_enter Tryd.func22, Tryd.ntmps22
    go_wp2
    go_ret
    exact ⟨by first | rfl | (simp; done) | (simp [*]; done), by repeat (first | exact Drawn0.refl _ | apply Drawn0.step)⟩
  · rw [if_neg c4] at H
    have c4b0 : decide (a1 ≤ a0) = false := decide_eq_false c4
    clear c4
    obtain rfl := Option.some.inj H
    go_enter Tryd.func22, Tryd.ntmps22
    go_wp2
    go_ret
    exact ⟨by first | rfl | (simp; done) | (simp [*]; done), by repeat (first | exact Drawn0.refl _ | apply Drawn0.step)⟩

/-! ### spec_RatioRotations: function 7 -/
theorem R_iter {α : Type} {d : Kd α} {e : Nat} {w : World} {base : Nat} {ok : Nat → Prop} {v : Value} {xs : List α} {K : Nat} {s : ByteArray} {p : Nat} (h : d.R e w base ok v xs) (hk : w.heap[K]? = some (.stringIter s p)) (q : Nat) : d.R e (w.iterAt K s q) base ok v xs :=
  Kd.R_mono (Kd.R_move (Kd.R_bound h) (fun k hk' => Lib.iterAt_other w K k s q (fun e => by obtain ⟨_, _, _, q, _, c, hc⟩ := hk'; subst e; rw [hk] at hc; cases hc))) (fun _ hk => hk.1)
theorem R_own_ne {α : Type} {d : Kd α} {e : Nat} {w : World} {base : Nat} {ok : Nat → Prop} {v : Value} {xs : List α} {K : Nat} {s : ByteArray} {p : Nat} (h : d.R e w base ok v xs) (hk : w.heap[K]? = some (.stringIter s p)) : some K ≠ v.ownBlock := by
  intro e
  obtain ⟨_, _, _, q, _, c, hc⟩ := (Kd.R_bound h).1 K e.symm
  rw [hk] at hc; cases hc
/-- A string read round from a place: the sum and whether it stayed above 0. -/
def rrIn (k : Int) (s : ByteArray) : Nat → Int → Int → Bool → Bool
  | 0, _, _, good => good
  | n + 1, j, sum, good => let sum' := if bt s j = 85 then wrap64 (sum + 1) else wrap64 (sum - k); rrIn k s n (j + 1) sum' (good && decide (sum' > 0))
def rot (s : ByteArray) (i : Nat) : ByteArray := s.extract i s.size ++ s.extract 0 i
def rrOut (k : Int) (s : ByteArray) : Nat → Nat → List Int → List Int
  | 0, _, out => out
  | n + 1, i, out => rrOut k s n (i + 1) (if rrIn k (rot s i) s.size 0 0 true then out ++ [(i : Int)] else out)
def RrK (s : ByteArray) : Prop := s.size ≤ 40 ∧ (∀ j, j < s.size → bt s (j : Int) < 128) ∧ ∀ i, i < s.size → ((rot s i).size = s.size ∧ ∀ j, j < s.size → bt (rot s i) (j : Int) < 128)
instance (s : ByteArray) : Decidable (RrK s) := by unfold RrK; infer_instance
theorem bt_get (s : ByteArray) (i : Nat) (h : i < s.size) : bt s (i : Int) = ((s[i]'h).toNat : Int) := by
  unfold bt
  simp [h]
theorem next_hit {P : Program} (w : World) (k : Nat) (s : ByteArray) (pos : Nat) (hk : w.heap[k]? = some (.stringIter s pos)) (h : pos < s.size) (ha : bt s (pos : Int) < 128) (ty : TypeId) :
    (Instr.next (.pointer (some ⟨k, 0, none⟩)) true ty).run P w = .ok (.tuple #[.bool true, .int .i64 pos, .int .i32 (bt s pos)]) (w.iterAt k s (pos + 1)) := by
  rw [bt_get s pos h] at ha ⊢
  exact Lib.run_next_ascii_at w k s pos ty hk h (by omega)
def spec_RatioRotations.f (k : Nat) (a0 : ByteArray) (a1 : Int) : Option (List Int × Bool) := (spec_paGood.f k a0).bind fun t => if t = true then ((spec_l1In.f a1 0 40).bind fun u => if u = true then (if RrK a0 then some (rrOut a1 a0 a0.size 0 [], true) else none) else some ([], false)) else some ([], false)
theorem spec_RatioRotations.mono : ∀ a0 a1 k, LeO (spec_RatioRotations.f k a0 a1) (spec_RatioRotations.f (k + 1) a0 a1) := by
  intro a0 a1 k
  unfold spec_RatioRotations.f
  exact LeO.bind (spec_paGood.mono _ _) (fun t => LeO.refl _)
set_option maxHeartbeats 8000000 in
set_option maxRecDepth 100000 in
theorem spec_RatioRotations.calls (k : Nat) (a0 : ByteArray) (a1 : Int) (r1 : List Int) (r2 : Bool) (w : World) (h : spec_RatioRotations.f k a0 a1 = some (r1, r2)) :
    Calls Tryd.prog 7 #[.string a0, .int .i64 a1] w fun e w' => ∃ v0_ : Value, e = .returned (.tuple #[v0_, .bool r2]) ∧ Kd.R (Kd.int .i64) 3 w' w.heap.size (fun _ => True) v0_ r1 ∧ Below w.heap.size w w' := by
  unfold spec_RatioRotations.f at h
  replace h := Option.bind_eq_some_iff.mp h
  obtain ⟨t, At0, h⟩ := h
  have At := Aside0.mk At0
  clear At0
  cases t with
  | false =>
    simp only [Bool.false_eq_true, if_false, Option.some.injEq, Prod.mk.injEq] at h
    obtain ⟨rfl, rfl⟩ := h
    go_enter Tryd.func7, Tryd.ntmps7
    go_wp2_with (first | (go_at_call 21; refine (spec_paGood.calls k a0 false _ At.out).mono ?_; rintro e w' ⟨rfl, ⟨nd, rfl⟩⟩))
    go_ret2
    exact ⟨_, rfl, Kd.R_nil _ _ _ _ _, by repeat (first | exact Below.refl _ _ | apply pw_below_drewN)⟩
  | true =>
    simp only [if_true] at h
    replace h := Option.bind_eq_some_iff.mp h
    obtain ⟨u, Au0, h⟩ := h
    have Au := Aside0.mk Au0
    clear Au0
    cases u with
    | false =>
      simp only [Bool.false_eq_true, if_false, Option.some.injEq, Prod.mk.injEq] at h
      obtain ⟨rfl, rfl⟩ := h
      go_enter Tryd.func7, Tryd.ntmps7
      go_wp2_with (first | (go_at_call 21; refine (spec_paGood.calls k a0 true _ At.out).mono ?_; rintro e w' ⟨rfl, ⟨nd, rfl⟩⟩) | (go_at_call 22; refine (spec_l1In.calls a1 0 40 false _ Au.out).mono ?_; rintro e w' ⟨rfl, ⟨nd2, rfl⟩⟩))
      go_ret2
      exact ⟨_, rfl, Kd.R_nil _ _ _ _ _, by repeat (first | exact Below.refl _ _ | apply pw_below_drewN)⟩
    | true =>
      simp only [if_true] at h
      by_cases hK : RrK a0
      · rw [if_pos hK] at h
        simp only [Option.some.injEq, Prod.mk.injEq] at h
        obtain ⟨hr, rfl⟩ := h
        have HR := Aside0.mk hr
        have HK := Aside0.mk hK
        clear hr hK
        go_enter Tryd.func7, Tryd.ntmps7
        go_wp2_with (first | (go_at_call 21; refine (spec_paGood.calls k a0 true _ At.out).mono ?_; rintro e w' ⟨rfl, ⟨nd, rfl⟩⟩) | (go_at_call 22; refine (spec_l1In.calls a1 0 40 true _ Au.out).mono ?_; rintro e w' ⟨rfl, ⟨nd2, rfl⟩⟩))
        go_loopg [6] a0.size (fun kq v6 wr => ∃ (i : Nat) (out : List Int), Aside0 (i ≤ a0.size ∧ out.length ≤ i) ∧ Aside0 (kq = a0.size - i) ∧ Aside0 (rrOut a1 a0 (a0.size - i) i out = r1) ∧ Aside0 (wr.heap[w.heap.size]? = some (.stringIter a0 i)) ∧ Aside0 (Kd.R (Kd.int .i64) 3 wr w.heap.size (fun _ => True) v6 out) ∧ Aside0 (Below w.heap.size w wr))
        case atStart => exact ⟨0, [], ⟨by simp⟩, ⟨by simp⟩, ⟨HR.out⟩, ⟨World.iter_heap ((w.drewN nd).drewN nd2) a0 0⟩, ⟨Kd.R_nil _ _ _ _ _⟩, ⟨by repeat (first | exact Below.refl _ _ | apply below_alloc | apply pw_below_drewN)⟩⟩
        case round =>
          obtain ⟨i, out, HI, HN, HE, HT, HO, HB⟩ := hrel
          have hi := HI.out
          by_cases hlt : i < a0.size
          · have hnx := next_hit (P := Tryd.prog) wr w.heap.size a0 i HT.out hlt (HK.out.2.1 i hlt)
            have p1 : (0 : Int) ≤ (i : Int) := by omega
            have p2 : (i : Int) ≤ (a0.size : Int) := by omega
            have q1 := eq_true p1
            have q2 := eq_true p2
            have p3 : (0 : Int) ≤ (a0.size : Int) := by omega
            have p4 : (a0.size : Int) ≤ (a0.size : Int) := by omega
            have hK1 := HK.out.1
            have p5 : (9223372036854775807 < a0.size) = False := eq_false (by omega)
            have p6 : ¬ 9223372036854775807 < a0.size := by omega
            go_wp2_with fail
            go_region
            have hR2 := R_iter HO.out HT.out (i + 1)
            have hT2 := Lib.iterAt_heap wr w.heap.size a0 i (i + 1) HT.out
            have hB2 := Lib.below_iterAt HB.out (Nat.le_refl w.heap.size) a0 (i + 1)
            clear hnx HO HT HB
            generalize wr.iterAt w.heap.size a0 (i + 1) = W1 at *
            have hlW : w.heap.size < W1.heap.size := (Array.getElem?_eq_some_iff.1 hT2).1
            have HO := Aside0.mk (show Kd.R (Kd.int .i64) 3 (W1.drew.iter (a0.extract i a0.size ++ a0.extract 0 i) 0) w.heap.size (fun _ => True) u6 out from Kd.R_alloc (Kd.R_drew hR2) _)
            have HT := Aside0.mk (show (W1.drew.iter (a0.extract i a0.size ++ a0.extract 0 i) 0).heap[w.heap.size]? = some (.stringIter a0 (i + 1)) from (Below.heap_alloc W1.drew _ w.heap.size hlW).trans hT2)
            have HB := Aside0.mk (show Below w.heap.size w (W1.drew.iter (a0.extract i a0.size ++ a0.extract 0 i) 0) from below_alloc (below_drew1 hB2) _)
            have HU := Aside0.mk (show (W1.drew.iter (a0.extract i a0.size ++ a0.extract 0 i) 0).heap[W1.heap.size]? = some (.stringIter (rot a0 i) 0) from World.iter_heap W1.drew (a0.extract i a0.size ++ a0.extract 0 i) 0)
            generalize W1.drew.iter (a0.extract i a0.size ++ a0.extract 0 i) 0 = W2 at *
            have HL := Aside0.mk hlW
            clear hR2 hT2 hB2
            generalize W1.heap.size = B2 at *
            have hrs := (HK.out.2.2 i hlt).1
            go_wp2_with fail
            go_loopg [8, 9] a0.size (fun kq v8 v9 wr => ∃ (j : Nat) (sum : Int) (good : Bool), v8 = .int .i64 sum ∧ v9 = .bool good ∧ Aside0 (j ≤ a0.size) ∧ Aside0 (kq = a0.size - j) ∧ Aside0 (rrIn a1 (rot a0 i) (a0.size - j) j sum good = rrIn a1 (rot a0 i) a0.size 0 0 true) ∧ Aside0 (wr.heap[B2]? = some (.stringIter (rot a0 i) j)) ∧ Aside0 (wr.heap[w.heap.size]? = some (.stringIter a0 (i + 1))) ∧ Aside0 (Kd.R (Kd.int .i64) 3 wr w.heap.size (fun _ => True) u6 out) ∧ Aside0 (Below w.heap.size w wr))
            case atStart => exact ⟨0, 0, true, rfl, rfl, ⟨Nat.zero_le _⟩, ⟨rfl⟩, ⟨rfl⟩, HU, HT, HO, HB⟩
            case round =>
              clear HU HT HO HB
              obtain ⟨j, sum, good, rfl, rfl, HJ, HNJ, HEJ, HU, HT, HO, HB⟩ := hrel
              have hj := HJ.out
              by_cases hjl : j < a0.size
              · have hnx2 := next_hit (P := Tryd.prog) wr B2 (rot a0 i) j HU.out (by omega) ((HK.out.2.2 i hlt).2 j hjl)
                have hU2 := Lib.iterAt_heap wr B2 (rot a0 i) j (j + 1) HU.out
                have hT2 := (Lib.iterAt_other wr B2 w.heap.size (rot a0 i) (j + 1) (by have := HL.out; omega)).trans HT.out
                have hO2 := R_iter HO.out HU.out (j + 1)
                have hB2 := Lib.below_iterAt HB.out (Nat.le_of_lt HL.out) (rot a0 i) (j + 1)
                have HU2 := Aside0.mk hU2
                have HT2 := Aside0.mk hT2
                have HO2 := Aside0.mk hO2
                have HB2 := Aside0.mk hB2
                have he := HEJ.out
                rw [show a0.size - j = a0.size - (j + 1) + 1 from by omega] at he
                simp only [rrIn] at he
                have HE2 := Aside0.mk he
                clear hU2 hT2 hO2 hB2 he
                by_cases hc : bt (rot a0 i) (j : Int) = 85
                · have hcb : (bt (rot a0 i) (j : Int) == 85) = true := beq_iff_eq.mpr hc
                  have he := HE2.out
                  rw [if_pos hc] at he
                  have HE3 := Aside0.mk he
                  clear he hc HE2
                  cases good
                  · go_wp2_with fail
                    go_roundg (a0.size - (j + 1))
                    case measure => have := HNJ.out; omega
                    case rel => exact ⟨j + 1, wrap64 (sum + 1), false, rfl, rfl, ⟨by omega⟩, ⟨rfl⟩, ⟨by simpa using HE3.out⟩, HU2, HT2, HO2, HB2⟩
                  · go_wp2_with fail
                    go_roundg (a0.size - (j + 1))
                    case measure => have := HNJ.out; omega
                    case rel => exact ⟨j + 1, wrap64 (sum + 1), decide (wrap64 (sum + 1) > 0), rfl, rfl, ⟨by omega⟩, ⟨rfl⟩, ⟨by simpa using HE3.out⟩, HU2, HT2, HO2, HB2⟩
                · have hcb : (bt (rot a0 i) (j : Int) == 85) = false := beq_eq_false_iff_ne.mpr hc
                  have he := HE2.out
                  rw [if_neg hc] at he
                  have HE3 := Aside0.mk he
                  clear he hc HE2
                  cases good
                  · go_wp2_with fail
                    go_roundg (a0.size - (j + 1))
                    case measure => have := HNJ.out; omega
                    case rel => exact ⟨j + 1, wrap64 (sum - a1), false, rfl, rfl, ⟨by omega⟩, ⟨rfl⟩, ⟨by simpa using HE3.out⟩, HU2, HT2, HO2, HB2⟩
                  · go_wp2_with fail
                    go_roundg (a0.size - (j + 1))
                    case measure => have := HNJ.out; omega
                    case rel => exact ⟨j + 1, wrap64 (sum - a1), decide (wrap64 (sum - a1) > 0), rfl, rfl, ⟨by omega⟩, ⟨rfl⟩, ⟨by simpa using HE3.out⟩, HU2, HT2, HO2, HB2⟩
              · obtain rfl : j = a0.size := by omega
                have hnx2 := fun ty => Lib.run_next_end_at (P := Tryd.prog) wr B2 (rot a0 i) a0.size ty HU.out (by omega)
                have he := HEJ.out
                rw [Nat.sub_self] at he
                simp only [rrIn] at he
                have hE := HE.out
                rw [show a0.size - i = a0.size - (i + 1) + 1 from by omega] at hE
                simp only [rrOut, ← he] at hE
                have HE2 := Aside0.mk hE
                clear he hE
                cases good with
                | false =>
                  go_wp2_with fail
                  go_roundg (a0.size - (i + 1))
                  case measure => have := HN.out; omega
                  case rel => exact ⟨i + 1, out, ⟨by omega⟩, ⟨rfl⟩, ⟨by simpa using HE2.out⟩, HT, HO, HB⟩
                | true =>
                  have hne := R_own_ne HO.out HT.out
                  have hsl := Kd.R_slice HO.out
                  have HNE := Aside0.mk hne
                  clear hne
                  have hwl : w.heap.size < wr.heap.size := (Array.getElem?_eq_some_iff.1 HT.out).1
                  have HWL := Aside0.mk hwl
                  go_wp2_with (first | ((with_reducible refine gate_builtin (b := .append) (xs := #[.tmp 49, .tmp 51]) rfl ?_); at_builtin; refine Kd.R_append (Kd.int .i64) (w0 := w) w.heap.size rfl (.tmp 49) (.tmp 51) 25 3 (.int .i64 0) 8 rfl Tryd.underlying25 info3 rfl (by decide) (by omega) u6 out (i : Int) [.int .i64 (i : Int)] (fun _ => True) (fun _ => False) rfl rfl ?aP (fun _ hk => hk.elim) ?aF ?aO ?aB ?aS ?aL ?_; (case aP => exact rfl); (case aB => exact HB.out); (case aF => exact (fun _ _ => trivial)); (case aO => exact HO.out); (case aS => exact (Nat.le_of_lt HWL.out)); (case aL => omega); intro v111 w13 ho hb hg hat; have n0_ := Aside0.mk (hb); have n1_ := Aside0.mk (ho); have n2_ := Aside0.mk ((hg.block w.heap.size HWL.out HNE.out).trans HT.out); clear ho hb hg hat))
                  go_roundg (a0.size - (i + 1))
                  case measure => have := HN.out; omega
                  case rel => exact ⟨i + 1, out ++ [(i : Int)], ⟨by simp; omega⟩, ⟨rfl⟩, ⟨by simpa using HE2.out⟩, n2_, n1_, n0_⟩
          · obtain rfl : i = a0.size := by omega
            have hnx := fun ty => Lib.run_next_end_at (P := Tryd.prog) wr w.heap.size a0 a0.size ty HT.out (by omega)
            have he := HE.out
            rw [Nat.sub_self] at he
            simp only [rrOut] at he
            go_wp2_with fail
            go_ret2
            exact ⟨_, rfl, by rw [← he]; exact HO.out, HB.out⟩
      · rw [if_neg hK] at h
        cases h

/-! ### strings_Trim: function 33 -/
def lays160_ren : Go.Shelf.Ren := ⟨fun | 160 => 33 | 232 => 38 | 231 => 37 | 227 => 39 | 234 => 41 | 233 => 40 | 236 => 43 | 235 => 42 | 228 => 45 | 271 => 48 | 151 => 47 | 197 => 46 | 120 => 55 | 152 => 54 | 260 => 53 | 137 => 58 | 119 => 59 | 224 => 51 | 225 => 50 | 217 => 49 | 266 => 56 | n => n, fun | 9 => 9 | 4 => 4 | 3 => 3 | 5 => 5 | 117 => 53 | 116 => 52 | 0 => 0 | 124 => 56 | 21 => 21 | 105 => 58 | 46 => 62 | 119 => 67 | 139 => 70 | 138 => 69 | n => n, fun | 3 => 1 | 4 => 2 | n => n⟩
theorem lays160 : Go.Proofs.Lays.n160 Tryd.prog lays160_ren := {
  mixed := by kernel_rfl
  f119 := Tryd.func59.trans (congrArg some (by kernel_rfl))
  f120 := Tryd.func55.trans (congrArg some (by kernel_rfl))
  f137 := Tryd.func58.trans (congrArg some (by kernel_rfl))
  f151 := Tryd.func47.trans (congrArg some (by kernel_rfl))
  f152 := Tryd.func54.trans (congrArg some (by kernel_rfl))
  f160 := Tryd.func33.trans (congrArg some (by kernel_rfl))
  f197 := Tryd.func46.trans (congrArg some (by kernel_rfl))
  f217 := Tryd.func49.trans (congrArg some (by kernel_rfl))
  f224 := Tryd.func51.trans (congrArg some (by kernel_rfl))
  f225 := Tryd.func50.trans (congrArg some (by kernel_rfl))
  f227 := Tryd.func39.trans (congrArg some (by kernel_rfl))
  f228 := Tryd.func45.trans (congrArg some (by kernel_rfl))
  f231 := Tryd.func37.trans (congrArg some (by kernel_rfl))
  f232 := Tryd.func38.trans (congrArg some (by kernel_rfl))
  f233 := Tryd.func40.trans (congrArg some (by kernel_rfl))
  f234 := Tryd.func41.trans (congrArg some (by kernel_rfl))
  f235 := Tryd.func42.trans (congrArg some (by kernel_rfl))
  f236 := Tryd.func43.trans (congrArg some (by kernel_rfl))
  f260 := Tryd.func53.trans (congrArg some (by kernel_rfl))
  f266 := Tryd.func56.trans (congrArg some (by kernel_rfl))
  f271 := Tryd.func48.trans (congrArg some (by kernel_rfl))
  t0 := Tryd.underlying0
  a0 := Tryd.isAgg0
  z0 := Tryd.sizeOf0
  v0 := Tryd.zeroValue0
  t3 := Tryd.underlying3
  a3 := Tryd.isAgg3
  z3 := Tryd.sizeOf3
  v3 := Tryd.zeroValue3
  t4 := Tryd.underlying4
  a4 := Tryd.isAgg4
  z4 := Tryd.sizeOf4
  v4 := Tryd.zeroValue4
  t5 := Tryd.underlying5
  a5 := Tryd.isAgg5
  z5 := Tryd.sizeOf5
  v5 := Tryd.zeroValue5
  t9 := Tryd.underlying9
  a9 := Tryd.isAgg9
  z9 := Tryd.sizeOf9
  v9 := Tryd.zeroValue9
  t21 := Tryd.underlying21
  a21 := Tryd.isAgg21
  z21 := Tryd.sizeOf21
  v21 := Tryd.zeroValue21
  t46 := Tryd.underlying62
  a46 := Tryd.isAgg62
  z46 := Tryd.sizeOf62
  v46 := Tryd.zeroValue62
  t105 := Tryd.underlying58
  a105 := Tryd.isAgg58
  z105 := Tryd.sizeOf58
  v105 := Tryd.zeroValue58
  t116 := Tryd.underlying52
  a116 := Tryd.isAgg52
  z116 := Tryd.sizeOf52
  t117 := Tryd.underlying53
  a117 := Tryd.isAgg53
  z117 := Tryd.sizeOf53
  v117 := Tryd.zeroValue53
  t119 := Tryd.underlying67
  a119 := Tryd.isAgg67
  z119 := Tryd.sizeOf67
  t124 := Tryd.underlying56
  a124 := Tryd.isAgg56
  z124 := Tryd.sizeOf56
  v124 := Tryd.zeroValue56
  t138 := Tryd.underlying69
  a138 := Tryd.isAgg69
  z138 := Tryd.sizeOf69
  v138 := Tryd.zeroValue69
  t139 := Tryd.underlying70
  a139 := Tryd.isAgg70
  z139 := Tryd.sizeOf70
  v139 := Tryd.zeroValue70
  g3 := by kernel_rfl
  g4 := by kernel_rfl }

def strings_Trim.f (a0 a1 : ByteArray) : Option (ByteArray) := if a0.size ≤ 9223372036854775807 ∧ a1.size < 4294967281 ∧ a1.data.toList.all (fun b => decide (b.toNat < 128)) = true then some ⟨(Lib.trimS a0.data.toList a1.data.toList).toArray⟩ else none
theorem strings_Trim.calls (a0 a1 : ByteArray) (r : ByteArray) (w : World) (h : strings_Trim.f a0 a1 = some r) :
    Calls Tryd.prog 33 #[.string a0, .string a1] w fun e w' => e = .returned (.string r) ∧ Below w.heap.size w w' := by
  unfold strings_Trim.f at h
  split at h
  · rename_i hc
    obtain ⟨h1, h2, h3⟩ := hc
    obtain rfl := Option.some.inj h
    exact Go.Proofs.Any.strings_Trim_laid lays160 (by kernel_rfl) a0 a1 w h1 h2 (Go.Proofs.ascii_of_all h3)
  · cases h

/-! ### impl_IsPath: function 23 -/
def impl_IsPath.f (a0 : ByteArray) : Option (Bool) := if (a0.size : Int) ≤ 40 then ((strings_Trim.f a0 (⟨#[85, 68]⟩ : ByteArray)).bind fun t101 => (some (t101.toList == ([] : List UInt8)))) else (some false)
set_option maxHeartbeats 8000000 in
set_option maxRecDepth 100000 in
theorem impl_IsPath.calls (a0 : ByteArray) (r : Bool) (w : World) (h : impl_IsPath.f a0 = some r) :
    Calls Tryd.prog 23 #[.string a0] w fun e w' => e = .returned (.bool r) ∧ Below w.heap.size w w' := by
  have HB := Aside0.mk (Below.refl w.heap.size w)
  have H : (if (a0.size : Int) ≤ 40 then ((strings_Trim.f a0 (⟨#[85, 68]⟩ : ByteArray)).bind fun t101 => (some (t101.toList == ([] : List UInt8)))) else (some false)) = some r := h
  clear h
  by_cases c2 : (a0.size : Int) ≤ 40
  · rw [if_pos c2] at H
    have c2b0 : decide ((a0.size : Int) ≤ 40) = true := decide_eq_true c2
    have c2b1 : decide (a0.size ≤ 40) = true := decide_eq_true (by omega)
    clear c2
    replace H := Option.bind_eq_some_iff.mp H
    obtain ⟨t101, A30, H⟩ := H
    replace H : (some (t101.toList == ([] : List UInt8))) = some r := H
    have A3 := Aside0.mk A30
    clear A30
    obtain rfl := Option.some.inj H
    go_enter Tryd.func23, Tryd.ntmps23
    go_wp2_with (first | (go_at_call 33; (with_reducible refine (strings_Trim.calls a0 (⟨#[85, 68]⟩ : ByteArray) t101 _ A3.out).mono ?_); rintro e w4 ⟨rfl, hb⟩; have n0_ := Aside0.mk (below_step (by repeat (first | (with_reducible first | exact HB.out | apply below_alloc | apply pw_below_drewN | apply below_drew1) | exact HB.out)) hb); clear HB; have HB := n0_; clear n0_; (try clear hb); (try clear hb2); (try clear hk); (try clear hi)))
    go_ret
    exact ⟨by first | rfl | (simp [errW_none, errW_some] <;> rfl) | (simp [*, errW_none, errW_some] <;> rfl), by repeat (first | (with_reducible first | exact HB.out | apply below_alloc | apply pw_below_drewN | apply below_drew1) | exact HB.out)⟩
  · rw [if_neg c2] at H
    have c2b0 : decide ((a0.size : Int) ≤ 40) = false := decide_eq_false c2
    have c2b1 : decide (a0.size ≤ 40) = false := decide_eq_false (by omega)
    clear c2
    obtain rfl := Option.some.inj H
    go_enter Tryd.func23, Tryd.ntmps23
    go_wp2
    go_ret
    exact ⟨by first | rfl | (simp [errW_none, errW_some] <;> rfl) | (simp [*, errW_none, errW_some] <;> rfl), by repeat (first | (with_reducible first | exact HB.out | apply below_alloc | apply pw_below_drewN | apply below_drew1) | exact HB.out)⟩

/-! ### impl_in: function 24 -/
def impl_in.f (a0 : Int) (a1 : Int) (a2 : Int) : Option (Bool) := if a1 ≤ a0 then (some (decide (a0 ≤ a2))) else (some false)
set_option maxHeartbeats 8000000 in
set_option maxRecDepth 100000 in
theorem impl_in.calls (a0 : Int) (a1 : Int) (a2 : Int) (r : Bool) (w : World) (h : impl_in.f a0 a1 a2 = some r) :
    Calls Tryd.prog 24 #[.int .i64 a0, .int .i64 a1, .int .i64 a2] w fun e w' => e = .returned (.bool r) ∧ Drawn0 w w' := by
  have H : (if a1 ≤ a0 then (some (decide (a0 ≤ a2))) else (some false)) = some r := h
  clear h
  by_cases c4 : a1 ≤ a0
  · rw [if_pos c4] at H
    have c4b0 : decide (a1 ≤ a0) = true := decide_eq_true c4
    clear c4
    obtain rfl := Option.some.inj H
    go_enter Tryd.func24, Tryd.ntmps24
    go_wp2
    go_ret
    exact ⟨by first | rfl | (simp; done) | (simp [*]; done), by repeat (first | exact Drawn0.refl _ | apply Drawn0.step)⟩
  · rw [if_neg c4] at H
    have c4b0 : decide (a1 ≤ a0) = false := decide_eq_false c4
    clear c4
    obtain rfl := Option.some.inj H
    go_enter Tryd.func24, Tryd.ntmps24
    go_wp2
    go_ret
    exact ⟨by first | rfl | (simp; done) | (simp [*]; done), by repeat (first | exact Drawn0.refl _ | apply Drawn0.step)⟩

/-! ### impl_isLevel: function 26 -/
def impl_isLevel.f (a0 : Int) : Option (Bool) := some (decide (a0 ≤ 0))
set_option maxHeartbeats 8000000 in
set_option maxRecDepth 100000 in
theorem impl_isLevel.calls (a0 : Int) (r : Bool) (w : World) (h : impl_isLevel.f a0 = some r) :
    Calls Tryd.prog 26 #[.int .i64 a0] w fun e w' => e = .returned (.bool r) ∧ Drawn0 w w' := by
  have H : (some (decide (a0 ≤ 0))) = some r := h
  clear h
  obtain rfl := Option.some.inj H
  go_enter Tryd.func26, Tryd.ntmps26
  go_wp2
  go_ret
  exact ⟨by first | rfl | (simp; done) | (simp [*]; done), by repeat (first | exact Drawn0.refl _ | apply Drawn0.step)⟩

/-! ### impl_leads: function 29 -/
def impl_leads.l0 : Nat → ByteArray → Int → List Int → Int → Int → Option (List Int)
  | 0, _, _, _, _, _ => none
  | k + 1, x0, x1, x5, x10, x11 => if x11 < x10 then (if 0 ≤ x11 then (if x11 < (x0.size : Int) then (if (bt x0 x11) = 68 then (if x11 < (x5.length : Int) then (if x5.length < 17592186044416 then (impl_leads.l0 k x0 x1 (x5 ++ [wrap64 ((rd x5 x11) + (wrap64 (-x1)))]) x10 (wrap64 (x11 + 1))) else (none)) else (none)) else (if x11 < (x5.length : Int) then (if x5.length < 17592186044416 then (impl_leads.l0 k x0 x1 (x5 ++ [wrap64 ((rd x5 x11) + 1)]) x10 (wrap64 (x11 + 1))) else (none)) else (none))) else (none)) else (none)) else (some x5)
def impl_leads.f (k : Nat) (a0 : ByteArray) (a1 : Int) : Option (List Int) := impl_leads.l0 k a0 a1 (([0] : List Int)) (a0.size : Int) 0
theorem impl_leads.mono_l : ∀ k, (∀ y0 y1 y2 y3 y4, LeO (impl_leads.l0 k y0 y1 y2 y3 y4) (impl_leads.l0 (k + 1) y0 y1 y2 y3 y4))
  | 0 => fun _ _ _ _ _ r h => by simp [impl_leads.l0] at h
  | k + 1 => by
    have ih0 := impl_leads.mono_l k
    · intro y0 y1 y2 y3 y4
      unfold impl_leads.l0
      repeat' first
      | (with_reducible exact ih0 _ _ _ _ _)
      | (with_reducible exact LeO.refl _)
      | (with_reducible exact LeO.none _)
      | (with_reducible refine LeO.ite ?_ ?_)
      | (with_reducible refine LeO.bind ?_ (fun _ => ?_))
      | exact ih0 _ _ _ _ _
      | exact LeO.none _
      | refine LeO.ite ?_ ?_
      | refine LeO.bind ?_ (fun _ => ?_)
theorem impl_leads.mono : ∀ a0 a1 k, LeO (impl_leads.f k a0 a1) (impl_leads.f (k + 1) a0 a1) := by
  intro a0 a1 k
  have ih0 := impl_leads.mono_l k
  unfold impl_leads.f
  repeat' first
      | (with_reducible exact ih0 _ _ _ _ _)
      | (with_reducible exact LeO.refl _)
      | (with_reducible exact LeO.none _)
      | (with_reducible refine LeO.ite ?_ ?_)
      | (with_reducible refine LeO.bind ?_ (fun _ => ?_))
      | exact ih0 _ _ _ _ _
      | exact LeO.none _
      | refine LeO.ite ?_ ?_
      | refine LeO.bind ?_ (fun _ => ?_)
set_option maxHeartbeats 8000000 in
set_option maxRecDepth 100000 in
theorem impl_leads.calls (k : Nat) (a0 : ByteArray) (a1 : Int) (r : List Int) (w : World) (h : impl_leads.f k a0 a1 = some r) :
    Calls Tryd.prog 29 #[.string a0, .int .i64 a1] w fun e w' => ∃ v0_ : Value, e = .returned (v0_) ∧ Kd.R (Kd.int .i64) 3 w' w.heap.size (fun _ => True) v0_ r ∧ Below w.heap.size w w' := by
  have HB := Aside0.mk (Below.refl w.heap.size w)
  have H : (impl_leads.l0 k a0 a1 (([0] : List Int)) (a0.size : Int) 0) = some r := h
  clear h
  obtain ⟨y102, hy102⟩ : ∃ y_ : List Int, y_ = (([0] : List Int)) := ⟨_, rfl⟩
  replace H : (impl_leads.l0 k a0 a1 y102 (a0.size : Int) 0) = some r := by first | (rw [hy102]; with_reducible exact H) | (have H2_ := (Option.bind_some _ _).symm.trans H; rw [hy102]; with_reducible exact H2_) | (have H2_ := (Option.bind_some _ _).symm.trans H; with_reducible exact H2_) | with_reducible exact H | (rw [hy102]; exact H) | exact H
  have Ny102 := Aside0.mk hy102
  clear hy102
  have H' := Aside0.mk H
  clear H
  go_enter Tryd.func29, Tryd.ntmps29
  go_wp2_with (first | ((with_reducible refine gate_dst (N := 8) rfl ?_); refine Kd.R_lit (Kd.int .i64) _ 3 ?hg (N := 8) ?hd (xs := ([0] : List Int)) (inner := [.int .i64 0]) (ok := fun _ => True) (okp := fun _ => True) ?hr ?hp (fun _ hk => hk) trivial (Below.refl _ _) (Nat.le_refl _) (by simp) ?_; (case hd => rfl); (case hg => rfl); (case hr => first | (go_simp; done) | (go_simp; rfl)); (case hp => exact (Reps.one (show Kd.M (Kd.int .i64) _ _ _ 0 [.int .i64 0] from rfl) (Reps.none _ _))); intro v103 w3 ho4 hb hg_ hnew_; clear hg_ hnew_; (first | rw [← Ny102.out] at ho4 | (simp only [Int.reduceToNat] at ho4; rw [← Ny102.out] at ho4)); have n0_ := Aside0.mk (Kd.R_lower ho4 (below_size (by repeat (first | (with_reducible first | exact HB.out | apply below_alloc | apply pw_below_drewN | apply below_drew1) | exact HB.out)))); have n1_ := Aside0.mk (below_step (by repeat (first | (with_reducible first | exact HB.out | apply below_alloc | apply pw_below_drewN | apply below_drew1) | exact HB.out)) hb); clear HB; have HO104 := n0_; have HB := n1_; clear n0_ n1_; clear hb ho4))
  go_loopg [5, 11] k (fun kq v5 v11 w' => ∃ (x5_1 : List Int) (x11_1 : Int), v11 = .int .i64 x11_1 ∧ Aside0 (impl_leads.l0 kq a0 a1 x5_1 (a0.size : Int) x11_1 = some r) ∧ Aside0 (kq ≤ k) ∧ Aside0 (Kd.R (Kd.int .i64) 3 w' w.heap.size (fun _ => True) v5 x5_1) ∧ Aside0 (Below w.heap.size w w'))
  case atStart => exact ⟨(y102), (0), (by first | rfl | (simp; done) | (simp [*]; done)), H', ⟨Nat.le_refl _⟩, ⟨by (with_reducible repeat (first | apply Kd.R_alloc | apply Kd.R_drewN | apply Kd.R_drew)); (first | exact HO104.out | exact Kd.R_mono HO104.out (fun k_ h_ => by simp only [ownB_] at h_ ⊢; exact h_))⟩, ⟨by repeat (first | (with_reducible first | exact HB.out | apply below_alloc | apply pw_below_drewN | apply below_drew1) | exact HB.out)⟩⟩
  case round =>
    clear H'
    try clear c2
    try clear p2
    obtain ⟨x5_1, x11_1, rfl, HA, HK1, HO_5, HB⟩ := hrel
    cases gk with
    | zero => exact absurd HA.out (by simp [impl_leads.l0])
    | succ k1 =>
      have H := HA.out
      clear HA
      simp only [impl_leads.l0] at H
      by_cases c5 : x11_1 < (a0.size : Int)
      · rw [if_pos c5] at H
        have c5b0 : decide (x11_1 < (a0.size : Int)) = true := decide_eq_true c5
        clear c5
        by_cases c6 : 0 ≤ x11_1
        · rw [if_pos c6] at H
          have c6b0 : decide (0 ≤ x11_1) = true := decide_eq_true c6
          clear c6
          by_cases c7 : x11_1 < (a0.size : Int)
          · rw [if_pos c7] at H
            have c7b0 : decide (x11_1 < (a0.size : Int)) = true := decide_eq_true c7
            clear c7
            by_cases c9 : (bt a0 x11_1) = 68
            · rw [if_pos c9] at H
              have c9b0 : ((bt a0 x11_1) == 68) = true := beq_iff_eq.mpr c9
              have c9b1 : ((bt a0 x11_1) != 68) = false := bne_eq_false_iff_eq.mpr c9
              clear c9
              by_cases c10 : x11_1 < (x5_1.length : Int)
              · rw [if_pos c10] at H
                have c10b0 : decide (x11_1 < (x5_1.length : Int)) = true := decide_eq_true c10
                clear c10
                by_cases c11 : x5_1.length < 17592186044416
                · rw [if_pos c11] at H
                  have LMc11 := Aside0.mk c11
                  clear c11
                  obtain ⟨y106, hy106⟩ : ∃ y_ : List Int, y_ = (x5_1 ++ [wrap64 ((rd x5_1 x11_1) + (wrap64 (-a1)))]) := ⟨_, rfl⟩
                  replace H : (impl_leads.l0 k1 a0 a1 y106 (a0.size : Int) (wrap64 (x11_1 + 1))) = some r := by first | (rw [hy106]; with_reducible exact H) | (have H2_ := (Option.bind_some _ _).symm.trans H; rw [hy106]; with_reducible exact H2_) | (have H2_ := (Option.bind_some _ _).symm.trans H; with_reducible exact H2_) | with_reducible exact H | (rw [hy106]; exact H) | exact H
                  have Ny106 := Aside0.mk hy106
                  clear hy106
                  have H' := Aside0.mk H
                  clear H
                  have p8 : 0 ≤ (x11_1 : Int) := of_decide_eq_true (by first | (with_reducible assumption) | assumption)
                  have q8 : x11_1 < (a0.size : Int) := of_decide_eq_true (by first | (with_reducible assumption) | assumption)
                  have hx8 := bt_at a0 x11_1
                  replace p8 := eq_true p8
                  replace q8 := eq_true q8
                  obtain ⟨Ao12, co12, eo12⟩ := Kd.R_slice HO_5.out
                  subst eo12
                  have p105 : 0 ≤ (x11_1 : Int) := of_decide_eq_true (by first | (with_reducible assumption) | assumption)
                  have q105 : x11_1 < (x5_1.length : Int) := of_decide_eq_true (by first | (with_reducible assumption) | assumption)
                  obtain ⟨ad105, e105, hx105_0⟩ := Kd.at_int (Kd.R_reads' HO_5.out).2.2 x11_1 p105 q105
                  cases e105
                  replace p105 := eq_true p105
                  replace q105 := eq_true q105
                  go_wp2_with (first | ((with_reducible refine gate_builtin (b := .append) (xs := #[.tmp 20, .tmp 27]) rfl ?_); at_builtin; refine Kd.R_append (Kd.int .i64) (w0 := w) w.heap.size rfl (.tmp 20) (.tmp 27) 25 3 (.int .i64 0) 8 rfl Tryd.underlying25 info3 rfl (by decide) (by omega) (.slice (some ad105) x5_1.length co12) x5_1 (wrap64 ((rd x5_1 x11_1) + (wrap64 (-a1)))) [.int .i64 (wrap64 ((rd x5_1 x11_1) + (wrap64 (-a1))))] (fun _ => True) (fun _ => False) rfl rfl ?aP (fun _ hk => hk.elim) ?aF ?aO ?aB ?aS ?aL ?_; (case aP => exact rfl); (case aB => exact (by repeat (first | (with_reducible first | exact HB.out | apply below_alloc | apply pw_below_drewN | apply below_drew1) | exact HB.out))); (case aF => exact (fun _ _ => trivial)); (case aO => exact (by (with_reducible repeat (first | apply Kd.R_alloc | apply Kd.R_drewN | apply Kd.R_drew)); (first | exact HO_5.out | exact Kd.R_mono HO_5.out (fun k_ h_ => by simp only [ownB_] at h_ ⊢; exact h_)))); (case aS => exact (below_size (by repeat (first | (with_reducible first | exact HB.out | apply below_alloc | apply pw_below_drewN | apply below_drew1) | exact HB.out)))); (case aL => have := LMc11.out; omega); intro v107 w13 ho hb hg hat; rw [← Ny106.out] at ho; have n0_ := Aside0.mk (hb); have n1_ := Aside0.mk (ho); clear HB; clear HO_5; have HB := n0_; have HO108 := n1_; clear n0_ n1_; clear ho hb hg hat))
                  go_roundg k1
                  case measure => have := HK1.out; omega
                  case rel => exact ⟨(y106), (wrap64 (x11_1 + 1)), (by first | rfl | (simp; done) | (simp [*]; done)), H', ⟨by have := HK1.out; omega⟩, ⟨by (with_reducible repeat (first | apply Kd.R_alloc | apply Kd.R_drewN | apply Kd.R_drew)); (first | exact HO108.out | exact Kd.R_mono HO108.out (fun k_ h_ => by simp only [ownB_] at h_ ⊢; exact h_))⟩, ⟨by repeat (first | (with_reducible first | exact HB.out | apply below_alloc | apply pw_below_drewN | apply below_drew1) | exact HB.out)⟩⟩
                · rw [if_neg c11] at H
                  exact absurd H (by simp)
              · rw [if_neg c10] at H
                exact absurd H (by simp)
            · rw [if_neg c9] at H
              have c9b0 : ((bt a0 x11_1) == 68) = false := beq_eq_false_iff_ne.mpr c9
              have c9b1 : ((bt a0 x11_1) != 68) = true := bne_iff_ne.mpr c9
              by_cases c14 : x11_1 < (x5_1.length : Int)
              · rw [if_pos c14] at H
                have c14b0 : decide (x11_1 < (x5_1.length : Int)) = true := decide_eq_true c14
                clear c14
                by_cases c15 : x5_1.length < 17592186044416
                · rw [if_pos c15] at H
                  have LMc15 := Aside0.mk c15
                  clear c15
                  obtain ⟨y110, hy110⟩ : ∃ y_ : List Int, y_ = (x5_1 ++ [wrap64 ((rd x5_1 x11_1) + 1)]) := ⟨_, rfl⟩
                  replace H : (impl_leads.l0 k1 a0 a1 y110 (a0.size : Int) (wrap64 (x11_1 + 1))) = some r := by first | (rw [hy110]; with_reducible exact H) | (have H2_ := (Option.bind_some _ _).symm.trans H; rw [hy110]; with_reducible exact H2_) | (have H2_ := (Option.bind_some _ _).symm.trans H; with_reducible exact H2_) | with_reducible exact H | (rw [hy110]; exact H) | exact H
                  have Ny110 := Aside0.mk hy110
                  clear hy110
                  have H' := Aside0.mk H
                  clear H
                  have p8 : 0 ≤ (x11_1 : Int) := of_decide_eq_true (by first | (with_reducible assumption) | assumption)
                  have q8 : x11_1 < (a0.size : Int) := of_decide_eq_true (by first | (with_reducible assumption) | assumption)
                  have hx8 := bt_at a0 x11_1
                  replace p8 := eq_true p8
                  replace q8 := eq_true q8
                  obtain ⟨Ao16, co16, eo16⟩ := Kd.R_slice HO_5.out
                  subst eo16
                  have p109 : 0 ≤ (x11_1 : Int) := of_decide_eq_true (by first | (with_reducible assumption) | assumption)
                  have q109 : x11_1 < (x5_1.length : Int) := of_decide_eq_true (by first | (with_reducible assumption) | assumption)
                  obtain ⟨ad109, e109, hx109_0⟩ := Kd.at_int (Kd.R_reads' HO_5.out).2.2 x11_1 p109 q109
                  cases e109
                  replace p109 := eq_true p109
                  replace q109 := eq_true q109
                  go_wp2_with (first | ((with_reducible refine gate_builtin (b := .append) (xs := #[.tmp 20, .tmp 27]) rfl ?_); at_builtin; refine Kd.R_append (Kd.int .i64) (w0 := w) w.heap.size rfl (.tmp 20) (.tmp 27) 25 3 (.int .i64 0) 8 rfl Tryd.underlying25 info3 rfl (by decide) (by omega) (.slice (some ad109) x5_1.length co16) x5_1 (wrap64 ((rd x5_1 x11_1) + 1)) [.int .i64 (wrap64 ((rd x5_1 x11_1) + 1))] (fun _ => True) (fun _ => False) rfl rfl ?aP (fun _ hk => hk.elim) ?aF ?aO ?aB ?aS ?aL ?_; (case aP => exact rfl); (case aB => exact (by repeat (first | (with_reducible first | exact HB.out | apply below_alloc | apply pw_below_drewN | apply below_drew1) | exact HB.out))); (case aF => exact (fun _ _ => trivial)); (case aO => exact (by (with_reducible repeat (first | apply Kd.R_alloc | apply Kd.R_drewN | apply Kd.R_drew)); (first | exact HO_5.out | exact Kd.R_mono HO_5.out (fun k_ h_ => by simp only [ownB_] at h_ ⊢; exact h_)))); (case aS => exact (below_size (by repeat (first | (with_reducible first | exact HB.out | apply below_alloc | apply pw_below_drewN | apply below_drew1) | exact HB.out)))); (case aL => have := LMc15.out; omega); intro v111 w17 ho hb hg hat; rw [← Ny110.out] at ho; have n0_ := Aside0.mk (hb); have n1_ := Aside0.mk (ho); clear HB; clear HO_5; have HB := n0_; have HO112 := n1_; clear n0_ n1_; clear ho hb hg hat))
                  go_roundg k1
                  case measure => have := HK1.out; omega
                  case rel => exact ⟨(y110), (wrap64 (x11_1 + 1)), (by first | rfl | (simp; done) | (simp [*]; done)), H', ⟨by have := HK1.out; omega⟩, ⟨by (with_reducible repeat (first | apply Kd.R_alloc | apply Kd.R_drewN | apply Kd.R_drew)); (first | exact HO112.out | exact Kd.R_mono HO112.out (fun k_ h_ => by simp only [ownB_] at h_ ⊢; exact h_))⟩, ⟨by repeat (first | (with_reducible first | exact HB.out | apply below_alloc | apply pw_below_drewN | apply below_drew1) | exact HB.out)⟩⟩
                · rw [if_neg c15] at H
                  exact absurd H (by simp)
              · rw [if_neg c14] at H
                exact absurd H (by simp)
          · rw [if_neg c7] at H
            exact absurd H (by simp)
        · rw [if_neg c6] at H
          exact absurd H (by simp)
      · rw [if_neg c5] at H
        have c5b0 : decide (x11_1 < (a0.size : Int)) = false := decide_eq_false c5
        clear c5
        obtain rfl := Option.some.inj H
        go_wp2
        go_ret
        exact ⟨_, by first | rfl | (simp [errW_none, errW_some] <;> rfl) | (simp [*, errW_none, errW_some] <;> rfl), by (with_reducible repeat (first | apply Kd.R_alloc | apply Kd.R_drewN | apply Kd.R_drew)); (first | exact HO_5.out | exact Kd.R_mono HO_5.out (fun k_ h_ => by simp only [ownB_] at h_ ⊢; exact h_)), by repeat (first | (with_reducible first | exact HB.out | apply below_alloc | apply pw_below_drewN | apply below_drew1) | exact HB.out)⟩

/-! ### impl_first: function 25 -/
def impl_first.l0 : Nat → Int → List Int → Int → Int → Option (Int × Bool)
  | 0, _, _, _, _ => none
  | k + 1, x2, x14, x15, x16 => if x16 < x15 then (if 0 ≤ x16 then (if x16 < (x14.length : Int) then (if x16 ≥ x2 then ((impl_isLevel.f (rd x14 x16)).bind fun t117 => (if t117 = true then (some (x16, true)) else (impl_first.l0 k x2 x14 x15 (wrap64 (x16 + 1))))) else (impl_first.l0 k x2 x14 x15 (wrap64 (x16 + 1)))) else (none)) else (none)) else (some (0, false))
def impl_first.f (k : Nat) (a0 : ByteArray) (a1 : Int) (a2 : Int)  : Option (Int × Bool) := (impl_leads.f k a0 a1).bind fun t113 => (impl_first.l0 k a2 t113 (t113.length : Int) 0)
theorem impl_first.mono_l : ∀ k, (∀ y0 y1 y2 y3, LeO (impl_first.l0 k y0 y1 y2 y3) (impl_first.l0 (k + 1) y0 y1 y2 y3))
  | 0 => fun _ _ _ _ r h => by simp [impl_first.l0] at h
  | k + 1 => by
    have ih0 := impl_first.mono_l k
    · intro y0 y1 y2 y3
      unfold impl_first.l0
      repeat' first
      | (with_reducible exact ih0 _ _ _ _)
      | (with_reducible exact impl_leads.mono _ _ _)
      | (with_reducible exact LeO.refl _)
      | (with_reducible exact LeO.none _)
      | (with_reducible refine LeO.ite ?_ ?_)
      | (with_reducible refine LeO.bind ?_ (fun _ => ?_))
      | exact ih0 _ _ _ _
      | exact impl_leads.mono _ _ _
      | exact LeO.none _
      | refine LeO.ite ?_ ?_
      | refine LeO.bind ?_ (fun _ => ?_)
theorem impl_first.mono : ∀ a0 a1 a2 k, LeO (impl_first.f k a0 a1 a2) (impl_first.f (k + 1) a0 a1 a2) := by
  intro a0 a1 a2 k
  have ih0 := impl_first.mono_l k
  unfold impl_first.f
  repeat' first
      | (with_reducible exact ih0 _ _ _ _)
      | (with_reducible exact impl_leads.mono _ _ _)
      | (with_reducible exact LeO.refl _)
      | (with_reducible exact LeO.none _)
      | (with_reducible refine LeO.ite ?_ ?_)
      | (with_reducible refine LeO.bind ?_ (fun _ => ?_))
      | exact ih0 _ _ _ _
      | exact impl_leads.mono _ _ _
      | exact LeO.none _
      | refine LeO.ite ?_ ?_
      | refine LeO.bind ?_ (fun _ => ?_)
set_option maxHeartbeats 8000000 in
set_option maxRecDepth 100000 in
theorem impl_first.calls (k : Nat) (a0 : ByteArray) (a1 : Int) (a2 : Int)  (r1 : Int) (r2 : Bool) (w : World) (h : impl_first.f k a0 a1 a2 = some (r1, r2)) :
    Calls Tryd.prog 25 #[.string a0, .int .i64 a1, .int .i64 a2, .func (.func 26) #[] #[]] w fun e w' => e = .returned (.tuple #[.int .i64 r1, .bool r2]) ∧ Below w.heap.size w w' := by
  have HB := Aside0.mk (Below.refl w.heap.size w)
  have H : ((impl_leads.f k a0 a1).bind fun t113 => (impl_first.l0 k a2 t113 (t113.length : Int) 0)) = some (r1, r2) := h
  clear h
  replace H := Option.bind_eq_some_iff.mp H
  obtain ⟨t113, A50, H⟩ := H
  replace H : (impl_first.l0 k a2 t113 (t113.length : Int) 0) = some (r1, r2) := H
  have A5 := Aside0.mk A50
  clear A50
  have H' := Aside0.mk H
  clear H
  go_enter Tryd.func25, Tryd.ntmps25
  go_wp2_with (first | ((with_reducible refine gate_callee (f := 29) rfl ?_); refine goesL_ (some 14) rfl rfl Tryd.func29 (by kernel_rfl) rfl #[.string a0, .int .i64 a1] rfl (by (try simp only [List.map_toArray, List.map_cons, List.map_nil]); first | done | rfl | (simp only [List.length_drop, List.length_take]; rfl)) ?_; (with_reducible refine (impl_leads.calls k a0 a1 t113 _ A5.out).mono ?_); rintro e w6 ⟨v114, rfl, ho0, hb⟩; refine ⟨_, rfl, ?_⟩; have n0_ := Aside0.mk (Kd.R_lower ho0 (below_size (by repeat (first | (with_reducible first | exact HB.out | apply below_alloc | apply pw_below_drewN | apply below_drew1) | exact HB.out)))); have n1_ := Aside0.mk (below_step (by repeat (first | (with_reducible first | exact HB.out | apply below_alloc | apply pw_below_drewN | apply below_drew1) | exact HB.out)) hb); clear HB; have HO115 := n0_; have HB := n1_; clear n0_ n1_; (try clear hb); (try clear hb2); (try clear hk); (try clear hi); (try clear ho0); obtain ⟨Ao7, co7, eo7⟩ := Kd.R_slice HO115.out; subst eo7))
  go_loopg [16] k (fun kq v16 w' => ∃ (x16_1 : Int), v16 = .int .i64 x16_1 ∧ Aside0 (impl_first.l0 kq a2 t113 (t113.length : Int) x16_1 = some (r1, r2)) ∧ Aside0 (kq ≤ k) ∧ Aside0 (Kd.R (Kd.int .i64) 3 w' w.heap.size (fun _ => True) (.slice Ao7 t113.length co7) t113) ∧ Aside0 (Below w.heap.size w w'))
  case atStart => exact ⟨(0), (by first | rfl | (simp; done) | (simp [*]; done)), H', ⟨Nat.le_refl _⟩, ⟨by (with_reducible repeat (first | apply Kd.R_alloc | apply Kd.R_drewN | apply Kd.R_drew)); (first | exact HO115.out | exact Kd.R_mono HO115.out (fun k_ h_ => by simp only [ownB_] at h_ ⊢; exact h_))⟩, ⟨by repeat (first | (with_reducible first | exact HB.out | apply below_alloc | apply pw_below_drewN | apply below_drew1) | exact HB.out)⟩⟩
  case round =>
    clear H'
    try clear c2
    try clear p2
    obtain ⟨x16_1, rfl, HA, HK1, HO_14, HB⟩ := hrel
    cases gk with
    | zero => exact absurd HA.out (by simp [impl_first.l0])
    | succ k1 =>
      have H := HA.out
      clear HA
      simp only [impl_first.l0] at H
      by_cases c8 : x16_1 < (t113.length : Int)
      · rw [if_pos c8] at H
        have c8b0 : decide (x16_1 < (t113.length : Int)) = true := decide_eq_true c8
        clear c8
        by_cases c9 : 0 ≤ x16_1
        · rw [if_pos c9] at H
          have c9b0 : decide (0 ≤ x16_1) = true := decide_eq_true c9
          clear c9
          by_cases c10 : x16_1 < (t113.length : Int)
          · rw [if_pos c10] at H
            have c10b0 : decide (x16_1 < (t113.length : Int)) = true := decide_eq_true c10
            clear c10
            by_cases c11 : x16_1 ≥ a2
            · rw [if_pos c11] at H
              have c11b0 : decide (a2 ≤ x16_1) = true := decide_eq_true c11
              clear c11
              replace H := Option.bind_eq_some_iff.mp H
              obtain ⟨t117, A120, H⟩ := H
              replace H : (if t117 = true then (some (x16_1, true)) else (impl_first.l0 k1 a2 t113 (t113.length : Int) (wrap64 (x16_1 + 1)))) = some (r1, r2) := H
              have A12 := Aside0.mk A120
              clear A120
              by_cases c13 : t117 = true
              · subst c13
                have H1 : (some (x16_1, true)) = some (r1, r2) := by rw [if_pos rfl] at H; exact H
                clear H
                have H := H1
                clear H1
                simp only [Option.some.injEq, Prod.mk.injEq] at H
                obtain ⟨rfl, rfl⟩ := H
                have p116 : 0 ≤ (x16_1 : Int) := of_decide_eq_true (by first | (with_reducible assumption) | assumption)
                have q116 : x16_1 < (t113.length : Int) := of_decide_eq_true (by first | (with_reducible assumption) | assumption)
                obtain ⟨ad116, e116, hx116_0⟩ := Kd.at_int (Kd.R_reads' HO_14.out).2.2 x16_1 p116 q116
                cases e116
                replace p116 := eq_true p116
                replace q116 := eq_true q116
                go_wp2_with (first | (go_at_call 26; (with_reducible refine (impl_isLevel.calls (rd t113 x16_1) true _ A12.out).mono ?_); rintro e w' ⟨rfl, ⟨nd, rfl⟩⟩))
                go_ret2
                exact ⟨by first | rfl | (simp [errW_none, errW_some] <;> rfl) | (simp [*, errW_none, errW_some] <;> rfl), by repeat (first | (with_reducible first | exact HB.out | apply below_alloc | apply pw_below_drewN | apply below_drew1) | exact HB.out)⟩
              · replace c13 := Bool.eq_false_iff.mpr c13
                subst c13
                have H1 : (impl_first.l0 k1 a2 t113 (t113.length : Int) (wrap64 (x16_1 + 1))) = some (r1, r2) := by rw [if_neg (show ¬ (false = true) by decide)] at H; exact H
                clear H
                have H := H1
                clear H1
                have H' := Aside0.mk H
                clear H
                have p116 : 0 ≤ (x16_1 : Int) := of_decide_eq_true (by first | (with_reducible assumption) | assumption)
                have q116 : x16_1 < (t113.length : Int) := of_decide_eq_true (by first | (with_reducible assumption) | assumption)
                obtain ⟨ad116, e116, hx116_0⟩ := Kd.at_int (Kd.R_reads' HO_14.out).2.2 x16_1 p116 q116
                cases e116
                replace p116 := eq_true p116
                replace q116 := eq_true q116
                go_wp2_with (first | (go_at_call 26; (with_reducible refine (impl_isLevel.calls (rd t113 x16_1) false _ A12.out).mono ?_); rintro e w' ⟨rfl, ⟨nd, rfl⟩⟩))
                go_roundg k1
                case measure => have := HK1.out; omega
                case rel => exact ⟨(wrap64 (x16_1 + 1)), (by first | rfl | (simp; done) | (simp [*]; done)), H', ⟨by have := HK1.out; omega⟩, ⟨by (with_reducible repeat (first | apply Kd.R_alloc | apply Kd.R_drewN | apply Kd.R_drew)); (first | exact HO_14.out | exact Kd.R_mono HO_14.out (fun k_ h_ => by simp only [ownB_] at h_ ⊢; exact h_))⟩, ⟨by repeat (first | (with_reducible first | exact HB.out | apply below_alloc | apply pw_below_drewN | apply below_drew1) | exact HB.out)⟩⟩
            · rw [if_neg c11] at H
              have c11b0 : decide (a2 ≤ x16_1) = false := decide_eq_false c11
              clear c11
              have H' := Aside0.mk H
              clear H
              have p116 : 0 ≤ (x16_1 : Int) := of_decide_eq_true (by first | (with_reducible assumption) | assumption)
              have q116 : x16_1 < (t113.length : Int) := of_decide_eq_true (by first | (with_reducible assumption) | assumption)
              obtain ⟨ad116, e116, hx116_0⟩ := Kd.at_int (Kd.R_reads' HO_14.out).2.2 x16_1 p116 q116
              cases e116
              replace p116 := eq_true p116
              replace q116 := eq_true q116
              go_wp2
              go_roundg k1
              case measure => have := HK1.out; omega
              case rel => exact ⟨(wrap64 (x16_1 + 1)), (by first | rfl | (simp; done) | (simp [*]; done)), H', ⟨by have := HK1.out; omega⟩, ⟨by (with_reducible repeat (first | apply Kd.R_alloc | apply Kd.R_drewN | apply Kd.R_drew)); (first | exact HO_14.out | exact Kd.R_mono HO_14.out (fun k_ h_ => by simp only [ownB_] at h_ ⊢; exact h_))⟩, ⟨by repeat (first | (with_reducible first | exact HB.out | apply below_alloc | apply pw_below_drewN | apply below_drew1) | exact HB.out)⟩⟩
          · rw [if_neg c10] at H
            exact absurd H (by simp)
        · rw [if_neg c9] at H
          exact absurd H (by simp)
      · rw [if_neg c8] at H
        have c8b0 : decide (x16_1 < (t113.length : Int)) = false := decide_eq_false c8
        clear c8
        simp only [Option.some.injEq, Prod.mk.injEq] at H
        obtain ⟨rfl, rfl⟩ := H
        go_wp2
        go_ret2
        exact ⟨by first | rfl | (simp [errW_none, errW_some] <;> rfl) | (simp [*, errW_none, errW_some] <;> rfl), by repeat (first | (with_reducible first | exact HB.out | apply below_alloc | apply pw_below_drewN | apply below_drew1) | exact HB.out)⟩

end Go.Proofs.YtglhnhinbdfpbaaDoor.PFnExactRatioRotations
