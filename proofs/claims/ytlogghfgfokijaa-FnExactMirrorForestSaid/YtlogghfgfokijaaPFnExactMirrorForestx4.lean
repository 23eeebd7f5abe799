/- The walk of the statement FnExactMirrorForest, further on: contracts by hand; no condition. -/
import Derived.Test.YtlogghfgfokijaaPFnExactMirrorForestx1
import Derived.Test.YtlogghfgfokijaaPFnExactMirrorForestx2
import Derived.Test.YtlogghfgfokijaaPFnExactMirrorForestx3
import Derived.RangeFuncNested
import Derived.RangeFuncBox
import Derived.RangeFuncBound
import Derived.RangeFuncCalls
import Derived.RangeFuncLeaves
import Derived.Shelf.Abstract
import Derived.Shelf.RegionOpen
import Derived.OwnWalkIn
import Derived.TacticsInMore
import Derived.LoopNIn
import Derived.LoopIn
namespace Go.Proofs.Ytlogghfgfokijaa.PFnExactMirrorForest
open Go.RowKit Go.Proofs.YtlogghfgfokijaaW.PrintWords Go.Proofs.YtlogghfgfokijaaW.PrintLast Go.Proofs.YtlogghfgfokijaaW.PrintMore
attribute [local go_sem] max2_int min2_int max_two min_two max_three min_three max_four min_four   -- for this text's walks alone
set_option linter.unusedVariables false
set_option linter.unusedSimpArgs false

/-! ### slices.Backward (35) and its closure (41) -/
section
open Go.Shelf
attribute [local go_sem] Oper.semAt_some
/-- What lies below n1, but for X, lies as it lay. -/
def KpB (n1 : Nat) (X : Nat → Prop) (A B : World) : Prop := ∀ k, k < n1 → ¬ X k → B.heap[k]? = A.heap[k]?
theorem KpB.refl (n1 : Nat) (X : Nat → Prop) (A : World) : KpB n1 X A A := fun _ _ _ => rfl
theorem KpB.trans {n1 : Nat} {X : Nat → Prop} {A B C : World} (h : KpB n1 X A B) (k : KpB n1 X B C) : KpB n1 X A C := fun i h1 h2 => (k i h1 h2).trans (h i h1 h2)
theorem KpB.cell {n1 : Nat} {X : Nat → Prop} {A B : World} (h : KpB n1 X A B) {a : Addr} (h1 : a.block < n1) (h2 : ¬ X a.block) : B.cell? a = A.cell? a := by
  unfold World.cell?
  rw [h a.block h1 h2]
/-- The indices that have come, the greatest first, down to t. -/
def dnL (len t : Nat) : List Nat := (List.range (len - t)).map (fun j => len - 1 - j)
theorem dnL_step (len t : Nat) (h : t < len) : dnL len t = dnL len (t + 1) ++ [t] := by
  unfold dnL
  rw [show len - t = (len - (t + 1)) + 1 from by omega, List.range_succ, List.map_append]
  simp only [List.map_cons, List.map_nil]
  congr 2
  omega
theorem dnL_len (len t : Nat) : (dnL len t).length = len - t := by unfold dnL; rw [List.length_map, List.length_range]
theorem dnL_all (len : Nat) : dnL len len = [] := by unfold dnL; rw [Nat.sub_self]; rfl
set_option maxHeartbeats 2000000 in
theorem backward_in (F : Fence) (n : Nat) (h : F.fn 35) (hro : F.round = none) (A : Option Addr) (len cap : Nat) (w : World) :
    CallsIn F n Try.prog 35 #[.slice A len cap] w fun e w' => e = .returned (.func (.func 41) #[] #[.pointer (some ⟨w.heap.size, 0, none⟩)]) ∧ w' = w.alloc (.cells #[.slice A len cap] 23) := by
  refine callsIn_of_wp Try.func35 rfl h ?_ hro
  simp only [Try.ntmps35, List.size_toArray, List.length_cons, List.length_nil, Nat.reduceAdd, Nat.reduceSub, Array.replicate_succ, Array.replicate_zero, List.push_toArray, List.append_toArray, List.nil_append, List.cons_append]
  gi_wp2
  go_ret
  exact ⟨rfl, rfl⟩
set_option maxRecDepth 100000 in
set_option maxHeartbeats 4000000 in
theorem backward1_in (F : Fence) (n : Nat) (h41 : F.fn 41) (hro : F.round = none) (hn : 1 ≤ n) (l Bs g n1 len cap : Nat) (X : Nat → Prop) (vals : Nat → Value) (hlen : len ≤ 1000000) (A : Option Addr) (hA : 0 < len → A = some ⟨g, 0, none⟩) (hg : g < n1) (hgX : ¬ X g) (hB : Bs < n1) (hBX : ¬ X Bs) (J Jx : List Nat → World → Prop)
    (hY : ∀ (pre : List Nat) (x : Nat) (W : World), J pre W → pre.length < len → YieldAt F (n - 1) Try.prog l #[.int .i64 (x : Int), vals x] W fun e W' =>
      (e = .returned (.bool true) ∧ J (pre ++ [x]) W' ∧ KpB n1 X W W') ∨ (e = .returned (.bool false) ∧ Jx (pre ++ [x]) W'))
    (W : World) (hBs : W.cell? ⟨Bs, 0, none⟩ = some (.slice A len cap)) (hc : ∀ j, j < len → W.cell? ⟨g, j, none⟩ = some (vals j)) (hv : ∀ j, j < len → ∃ a b c, vals j = .slice a b c) (h0 : J [] W) :
    CallsIn F n Try.prog 41 #[.func (.yield l) #[] #[], .pointer (some ⟨Bs, 0, none⟩)] W fun e W' => (∃ v, e = .returned v) ∧
      ((∃ ys, ys = dnL len 0 ∧ J ys W') ∨ (∃ pre, True ∧ Jx pre W')) := by
  refine callsIn_of_wp Try.func41 rfl h41 ?_ hro
  simp only [Try.ntmps41, List.size_toArray, List.length_cons, List.length_nil, Nat.reduceAdd, Nat.reduceSub, Array.replicate_succ, Array.replicate_zero, List.push_toArray, List.append_toArray, List.nil_append, List.cons_append]
  have wlen : wrap64 ((len : Int) - 1) = (len : Int) - 1 := by unfold wrap64; omega
  gi_wp2
  gi_loopw [3] (fun i wr => ∃ (t : Nat) (z : Int), t ≤ len ∧ z = (t : Int) - 1 ∧ i = .int .i64 z ∧ J (dnL len t) wr ∧ KpB n1 X W wr)
    (fun i _ => (intOf i + 1).toNat)
  case atStart => exact ⟨len, _, Nat.le_refl _, rfl, by first | rfl | rw [wlen], by rw [dnL_all]; exact h0, KpB.refl _ _ _⟩
  case round =>
    obtain ⟨t, z, ht, hz, rfl, hJs, hnx⟩ := hrel
    have hbs : wr.cell? ⟨Bs, 0, none⟩ = some (.slice A len cap) := (hnx.cell hB hBX).trans hBs
    cases t with
    | zero =>
      have cz : decide (0 ≤ z) = false := decide_eq_false (by omega)
      have hzz : ¬ (0 ≤ z) := by omega
      gi_wp2
      go_end0
      first | exact ⟨⟨_, rfl⟩, .inl ⟨_, rfl, hJs⟩⟩ | exact ⟨⟨_, rfl⟩, .inl hJs⟩
    | succ t =>
      obtain rfl : z = (t : Int) := by omega
      clear hz
      have hlt : t < len := by omega
      have hA' := hA (by omega)
      subst hA'
      clear hA
      have hct : wr.cell? ⟨g, t, none⟩ = some (vals t) := (hnx.cell (a := ⟨g, t, none⟩) hg hgX).trans (hc t hlt)
      obtain ⟨va, vb, vc, hvt⟩ := hv t hlt
      rw [hvt] at hct
      obtain ⟨fn, tmps, assign, body, hy, hR⟩ := hY _ t wr hJs (by rw [dnL_len]; omega)
      rw [hvt] at hy
      clear hvt
      try dsimp only at hy
      gi_wp2
      refine hR.mono ?_
      rintro e W3 (⟨rfl, hJ3, hk3⟩ | ⟨rfl, hJx3⟩)
      · gi_wp2
        go_roundw
        case rel => exact ⟨t, _, by omega, rfl, by first | rfl | rw [show wrap64 ((t : Int) - 1) = (t : Int) - 1 from by unfold wrap64; omega], by rw [dnL_step len t hlt]; exact hJ3, hnx.trans hk3⟩
        case measure =>
          show (((t : Int) - 1) + 1).toNat < ((t : Int) + 1).toNat
          omega
      · gi_wp2
        refine bodyPost_ret (results_none rfl _ _ _) rfl ?_
        exact ⟨⟨_, rfl⟩, .inr ⟨_, trivial, hJx3⟩⟩
end

section
open Go.Shelf
theorem backward_stops (F : Fence) (n : Nat) (h41 : F.fn 41) (hro : F.round = none) (hn : 1 ≤ n) (Bs g n1 len cap : Nat) (X : Nat → Prop) (vals : Nat → Value) (hlen : len ≤ 1000000) (A : Option Addr) (hA : 0 < len → A = some ⟨g, 0, none⟩) (hg : g < n1) (hgX : ¬ X g) (hB : Bs < n1) (hBX : ¬ X Bs)
    (w : World) (hn1 : n1 ≤ w.heap.size) (hBs : w.cell? ⟨Bs, 0, none⟩ = some (.slice A len cap)) (hc : ∀ j, j < len → w.cell? ⟨g, j, none⟩ = some (vals j)) (hv : ∀ j, j < len → ∃ a b c, vals j = .slice a b c) :
    SeqStopsK F n Try.prog 41 #[.pointer (some ⟨Bs, 0, none⟩)] (fun x : Nat => #[Value.int .i64 (x : Int), vals x]) (KpB n1 X) (fun ys => ys = dnL len 0) (fun _ => True) len w := fun l J Jx W hW _ _ hY h0 =>
  backward1_in F n h41 hro hn l Bs g n1 len cap X vals hlen A hA hg hgX hB hBX J Jx hY W ((hW.cell (p := ⟨Bs, 0, none⟩) (show Bs < w.heap.size from by omega)).trans hBs) (fun j hj => (hW.cell (p := ⟨g, j, none⟩) (show g < w.heap.size from by omega)).trans (hc j hj)) hv h0
theorem dnL_pieces (ps : List (List Int)) (n : Nat) (h : ps.length = n) : ((dnL n 0).map (fun x => ps.getD (min x (n - 1)) [])) = ps.reverse := by
  subst h
  unfold dnL
  rw [Nat.sub_zero, List.map_map]
  apply List.ext_getElem
  · rw [List.length_map, List.length_range, List.length_reverse]
  · intro i h1 h2
    rw [List.length_reverse] at h2
    simp only [List.getElem_map, List.getElem_range, List.getElem_reverse, Function.comp]
    rw [List.getD_eq_getElem?_getD, List.getElem?_eq_getElem (by omega)]
    simp only [Option.getD_some]
    congr 1
    omega
theorem ownFrom_kp {β : Type} {n1 B : Nat} {X : Nat → Prop} {w0 : World} (hB : n1 ≤ B) : OwnFrom B (fun (_ : β) W => KpB n1 X w0 W ∧ n1 ≤ W.heap.size) :=
  fun _ W W' row hs hg hr => ⟨hs.1.trans (fun k hk _ => hg.block k (by have := hs.2; omega) (fun e => by have := (hr k e.symm).1; omega)), Nat.le_trans hs.2 hg.size⟩
theorem ownFrom_row {β : Type} {b t B base : Nat} {ok : Nat → Prop} {f : β → List Int} : OwnFrom B (fun (s : β) W => ∃ v, Boxed W b t v ∧ Kd.R (Kd.int .i64) 3 W base ok v (f s)) :=
  fun s W W' row hs hg hr => by
    obtain ⟨v, hv, hR⟩ := hs
    refine ⟨v, hv.kept hg (fun e => ?_), Kd.R_mono (Kd.R_grown (Kd.R_bound hR) hg (fun k hk e => ?_)) (fun _ hk => hk.1)⟩
    · obtain ⟨_, o, ho, hc⟩ := hr b e.symm
      rw [show W.heap[b]? = some (.cells #[v] t (0, 0)) from hv] at ho
      injection ho with ho
      subst ho
      cases hc
    · obtain ⟨_, o, ho, hc⟩ := hr k e.symm
      obtain ⟨_, _, _, q, _, cells, hcell⟩ := hk
      rw [hcell] at ho
      injection ho with ho
      subst ho
      cases hc
end

/-! ### a region that draws, in a round of a loop over a function: as everywhere, where no operation defers -/
section
open Go.Shelf
theorem opIn_of_wp {P : Program} {l n : Nat} {o : Oper} {a : Act} {w : World} {K : Act → World → Prop} {Q : Exit → Act → World → Prop} (hd : ∀ c, o.op ≠ .defer c) (h : o.wp P a w K Q) : o.wpIn (Fence.wide.inRound l) n P a w K Q := by
  unfold Oper.wpIn
  refine ⟨fun _ _ => trivial, ?_⟩
  rw [Oper.semAt_plain (Fence.wide.inRound l) a.eval o hd]
  unfold Oper.wp at h
  generalize (execOp a.eval o).run P w = r at *
  cases r with
  | ok x w' =>
    cases x <;> simp only [Oper.upon, Oper.uponIn] at h ⊢ <;> first
      | exact h
      | exact ⟨fun hh => by simp [Fence.inRound_depth, Fence.wide] at hh, CallsIn.inRound l (callsIn_wide.2 h)⟩
      | exact ⟨fun hh => by simp [Fence.inRound_depth, Fence.wide] at hh, fun c cs _ => let ⟨v, w1, r, s⟩ := h c cs; ⟨v, w1, r, stepsIn_wide.2 s⟩⟩
  | halt x w' => cases x <;> simp only [Oper.upon, Oper.uponIn] at h ⊢ <;> exact h
theorem wpAnyIn_of {P : Program} {md : Region.Mode} {ops : Array Oper} {l n : Nat} {Q : Exit → Act → World → Prop} (hd : ∀ (i : Nat) (o : Oper), ops[i]? = some o → ∀ c, o.op ≠ .defer c) (hL : ¬ LetsOut Q) : ∀ (fuel : Nat) (listed : Array Bool) (a : Act) (w : World), wpAny P md ops Q fuel listed a w → wpAnyIn (Fence.wide.inRound l) n P md ops Q fuel listed a w
  | 0, _, _, _, h => h
  | fuel + 1, listed, a, w, h => ⟨h.1, fun i hi => by
    have h2 := wpOp_mono (K' := wpAnyIn (Fence.wide.inRound l) n P md ops Q fuel (listed.setIfInBounds i true)) (fun a w hh => wpAnyIn_of hd hL fuel (listed.setIfInBounds i true) a w hh) (h.2 i hi)
    unfold wpOp at h2
    unfold wpOpIn
    cases ho : ops[i]? with
    | none => simp only [ho] at h2 ⊢; exact h2
    | some o =>
      simp only [ho] at h2 ⊢
      by_cases hw : Region.wanted o (yielded ops a.tmps) = true
      · simp only [hw, if_true] at h2 ⊢
        exact opIn_of_wp (hd i o ho) (h2.resolve_right (fun hh => hL hh.2))
      · simp only [hw, if_false] at h2 ⊢
        exact ⟨fun _ _ => trivial, h2⟩⟩
theorem startIn_ {P : Program} {ops : Array Oper} {Q : Exit → Act → World → Prop} {S : World → Prop} {ds : List Nat} {id n l n' : Nat} {a : Act} {w : World} (L : Array Bool) (hm : P.follows .mixedOrders = true) (hn : ops.size = n) (hl : Array.replicate n false = L) (hd : ∀ (i : Nat) (o : Oper), ops[i]? = some o → ∀ c, o.op ≠ .defer c) (hL : ¬ LetsOut Q) (hS : S w.drew)
    (h : S w.drew → wpAnyLast P .any ops Q S ds n L a w.drew) : (Code.region id ops true).wpIn (Fence.wide.inRound l) n' P Q a w := by
  subst hn
  subst hl
  exact wpIn_region_any hm (wpAnyIn_of hd hL _ _ _ _ (wpAny_of_last _ _ _ _ (h hS)))
end

/-! ### impl_mirrored: function 28 -/
def mirL (g : List Int → Option (List Int)) : List (List Int) → Option (List Int)
  | [] => some []
  | [] :: _ => none
  | (x :: q) :: t => (mirL g t).bind fun out => (g q).bind fun m => if (out ++ (x :: m)).length < 1000000 then some (out ++ (x :: m)) else none
def impl_mirrored.f : Nat → List Int → Option (List Int)
  | 0, _ => none
  | k + 1, a0 => (impl_treesIn.f k a0).bind fun rows => if rows.length < 1000000 then mirL (impl_mirrored.f k) rows else none
/-- The pieces, one for each tree. -/
theorem mirL_pieces (g : List Int → Option (List Int)) : ∀ (rows : List (List Int)) (r : List Int), mirL g rows = some r → r.length < 1000000 ∧ ∃ ps : List (List Int), ps.length = rows.length ∧ r = (ps.reverse).flatten ∧ ∀ i, i < rows.length → ∃ x q m, rows.getD i [] = x :: q ∧ g q = some m ∧ ps.getD i [] = x :: m ∧ (x :: m).length ≤ r.length
  | [], r, h => by
    simp only [mirL, Option.some.injEq] at h
    subst h
    exact ⟨by decide, [], rfl, rfl, fun i hi => absurd hi (Nat.not_lt_zero i)⟩
  | [] :: t, r, h => by simp [mirL] at h
  | (x :: q) :: t, r, h => by
    simp only [mirL] at h
    obtain ⟨out, h1, h⟩ := Option.bind_eq_some_iff.mp h
    obtain ⟨m, h2, h⟩ := Option.bind_eq_some_iff.mp h
    obtain ⟨_, ps, e1, e2, e3⟩ := mirL_pieces g t out h1
    by_cases c : (out ++ (x :: m)).length < 1000000
    · rw [if_pos c] at h
      obtain rfl := Option.some.inj h
      refine ⟨c, (x :: m) :: ps, by rw [List.length_cons, List.length_cons, e1], by rw [List.reverse_cons, List.flatten_append, e2]; simp, fun i hi => ?_⟩
      cases i with
      | zero => exact ⟨x, q, m, rfl, h2, rfl, by rw [List.length_append]; omega⟩
      | succ i =>
        obtain ⟨x', q', m', a1, a2, a3, a4⟩ := e3 i (by rw [List.length_cons] at hi; omega)
        exact ⟨x', q', m', a1, a2, a3, by rw [List.length_append]; omega⟩
    · rw [if_neg c] at h; cases h
theorem pcs_len (P : Nat → List Int) (B : Nat) (hP : ∀ x, (P x).length ≤ B) : ∀ pre : List Nat, ((pre.map P).flatten).length ≤ pre.length * B
  | [] => by simp
  | x :: t => by
    have := pcs_len P B hP t
    have h2 := hP x
    simp only [List.map_cons, List.flatten_cons, List.length_append, List.length_cons]
    rw [Nat.succ_mul]
    omega
def noDef (o : Oper) : Bool := match o.op with | .defer _ => false | _ => true
theorem noDef_spec {ops : Array Oper} (h : ops.all noDef = true) : ∀ (i : Nat) (o : Oper), ops[i]? = some o → ∀ c, o.op ≠ .defer c := by
  intro i o ho c e
  obtain ⟨hl, rfl⟩ := Array.getElem?_eq_some_iff.1 ho
  have := Array.all_eq_true.1 h i hl
  unfold noDef at this
  rw [e] at this
  cases this

theorem add_zero_ (a : Addr) : a.add (0 : Int).toNat = a := by
  unfold Addr.add
  split <;> simp_all
section
open Go.Shelf
attribute [local go_sem] Oper.semAt_some
set_option maxHeartbeats 8000000 in
set_option maxRecDepth 100000 in
theorem impl_mirrored.calls (k : Nat) : ∀ (A0 : Option Addr) (c0 : Nat) (l0 : List Int) (r : List Int) (w : World) (hr0 : Kd.C (Kd.int .i64) w A0 l0.length l0) (hc0 : l0.length ≤ c0) (h : impl_mirrored.f k l0 = some r),
    Calls Try.prog 28 #[.slice A0 l0.length c0] w fun e w' => ∃ v0_ : Value, e = .returned v0_ ∧ Kd.R (Kd.int .i64) 3 w' w.heap.size (fun _ => True) v0_ r ∧ Below w.heap.size w w' := by
  induction k using Nat.strongRecOn with
  | _ k ih =>
  intro A0 c0 l0 r w hr0 hc0 h
  cases k with
  | zero => exact absurd h (by simp [impl_mirrored.f])
  | succ k =>
  simp only [impl_mirrored.f] at h
  obtain ⟨rows, A20, h⟩ := Option.bind_eq_some_iff.mp h
  have A2 := Aside0.mk A20
  clear A20
  by_cases hrl : rows.length < 1000000
  case neg => rw [if_neg hrl] at h; cases h
  rw [if_pos hrl] at h
  obtain ⟨hrm, ps, hps1, hps2, hps3⟩ := mirL_pieces _ _ _ h
  have HR0 := Aside0.mk hr0
  have HC0 := Aside0.mk hc0
  clear hr0 hc0 h
  obtain ⟨W0, hW0⟩ : ∃ W0, (w.alloc (Obj.cells #[] 3)).alloc (Obj.cells #[Value.slice (some { block := w.heap.size, off := 0 }) 0 0] 22) = W0 := ⟨_, rfl⟩
  have HB0 : Below w.heap.size w W0 := by rw [← hW0]; exact below_alloc (below_alloc (Below.refl _ _) _) _
  have hs0 : W0.heap.size = w.heap.size + 2 := by rw [← hW0, World.size_alloc, World.size_alloc]
  refine (callsIn_wide (n := 8)).1 ?_
  refine callsIn_of_wp_marks Try.func28 rfl trivial ?_ rfl
  simp only [Try.ntmps28, List.size_toArray, List.length_cons, List.length_nil, Nat.reduceAdd, Nat.reduceSub, Array.replicate_succ, Array.replicate_zero, List.push_toArray, List.append_toArray, List.nil_append, List.cons_append]
  gi_wp2_with (first | (refine ⟨trivial, ?_⟩; gi_at_call 22; (try rw [hW0]); refine (callsIn_wide.2 (impl_treesIn.calls k _ _ l0 rows W0 (Kd.C_below HR0.out HB0) HC0.out A2.out)).mono ?_; rintro e w1 ⟨v1, rfl, ho1, hb1⟩; have HS1 := Aside0.mk ho1; have HB1 := Aside0.mk hb1; clear ho1 hb1; obtain ⟨A1, c1, e1⟩ := Kd.S_slice HS1.out; subst e1) | (refine ⟨trivial, ?_⟩; gi_at_call 35; refine (backward_in Fence.wide _ trivial rfl _ _ _ _).mono ?_; rintro e w' ⟨rfl, rfl⟩))
  obtain ⟨n1, hn1⟩ : ∃ n1, n1 = w1.heap.size + 1 := ⟨_, rfl⟩
  obtain ⟨W2, hW2⟩ : ∃ W2, w1.alloc (Obj.cells #[Value.slice A1 rows.length c1] 23) = W2 := ⟨_, rfl⟩
  rw [hW2]
  have hs1 : w.heap.size + 2 ≤ w1.heap.size := by rw [← hs0]; exact HB1.out.size
  have hs2 : W2.heap.size = n1 := by rw [← hW2, World.size_alloc, hn1]
  obtain ⟨X, hX⟩ : ∃ X : Nat → Prop, X = fun k => k = w.heap.size ∨ k = w.heap.size + 1 := ⟨_, rfl⟩
  have hXn : ∀ k, w.heap.size + 2 ≤ k → ¬ X k := fun k hk hx => by rw [hX] at hx; rcases hx with hx | hx <;> omega
  obtain ⟨g1, hg1, hg2, hA1⟩ : ∃ g1, w.heap.size + 2 ≤ g1 ∧ g1 < n1 ∧ (0 < rows.length → A1 = some ⟨g1, 0, none⟩) := by
    by_cases hp : 0 < rows.length
    · obtain ⟨g, cap, e, h1, h2, _⟩ := Kd.S_form HS1.out hp
      injection e with e
      exact ⟨g, by omega, by omega, fun _ => e⟩
    · exact ⟨w1.heap.size, by omega, by omega, fun h => absurd h hp⟩
  have hS2 : Kd.S (Kd.slice 3 (Kd.int .i64)) 22 W2 w.heap.size (fun k => w.heap.size + 2 ≤ k ∧ k < n1) (.slice A1 rows.length c1) rows := by
    rw [← hW2]
    exact Kd.S_alloc (Kd.S_mono (Kd.S_lower (Kd.S_bound HS1.out) HB0.size) (fun k hk => ⟨by have := hk.2.1; omega, by have := hk.2.2.1; omega⟩)) _
  obtain ⟨vals, hvals⟩ : ∃ vals : Nat → Value, vals = fun x => (W2.cell? ⟨g1, min x (rows.length - 1), none⟩).getD undef := ⟨_, rfl⟩
  have hT : ∀ W, KpB n1 X W2 W → ∀ x, 0 < rows.length → ∃ A' c', vals x = .slice A' (rd_L1 rows ((min x (rows.length - 1) : Nat) : Int)).length c' ∧ W.cell? ⟨g1, min x (rows.length - 1), none⟩ = some (vals x) ∧ (Kd.int .i64).C W A' (rd_L1 rows ((min x (rows.length - 1) : Nat) : Int)).length (rd_L1 rows ((min x (rows.length - 1) : Nat) : Int)) ∧ (rd_L1 rows ((min x (rows.length - 1) : Nat) : Int)).length ≤ c' := by
    intro W hK x hp
    have hSW := Kd.S_step hS2 (w1 := W) (fun k hk _ => hK k hk.2 (hXn k hk.1))
    obtain ⟨ad, A', c', ea, hcell, hl, hC⟩ := at_L1 (Kd.S_reads' hSW).2.2 ((min x (rows.length - 1) : Nat) : Int) (by omega) (by omega)
    rw [hA1 hp] at ea
    injection ea with ea
    subst ea
    have hc1 : W.cell? ⟨g1, min x (rows.length - 1), none⟩ = some (.slice A' (rd_L1 rows ((min x (rows.length - 1) : Nat) : Int)).length c') := by
      rw [add_plain, Int.toNat_natCast] at hcell
      exact hcell
    have hv : vals x = .slice A' (rd_L1 rows ((min x (rows.length - 1) : Nat) : Int)).length c' := by
      rw [hvals]
      show (W2.cell? ⟨g1, min x (rows.length - 1), none⟩).getD undef = _
      rw [← hK.cell (a := ⟨g1, min x (rows.length - 1), none⟩) hg2 (hXn g1 hg1), hc1]
      rfl
    exact ⟨A', c', hv, by rw [hc1, hv], hC, hl⟩
  clear hvals
  have hBs : W2.cell? ⟨w1.heap.size, 0, none⟩ = some (.slice A1 rows.length c1) := by
    rw [← hW2]; exact World.cell?_alloc_at _ _ _ _ rfl
  have hbox0 : Boxed W2 (w.heap.size + 1) 22 (.slice (some ⟨w.heap.size, 0, none⟩) 0 0) := by
    rw [← hW2]
    refine Boxed.alloc ?_ _
    refine (HB1.out.block (w.heap.size + 1) (by omega)).trans ?_
    rw [← hW0]
    have := World.alloc_heap_new (w.alloc (Obj.cells #[] 3)) (Obj.cells #[Value.slice (some { block := w.heap.size, off := 0 }) 0 0] 22)
    rwa [World.size_alloc] at this
  have hR0 : Kd.R (Kd.int .i64) 3 W2 w.heap.size (fun k => k = w.heap.size ∨ n1 ≤ k) (.slice (some ⟨w.heap.size, 0, none⟩) 0 0) [] := by
    refine Kd.R_of_own (xs := []) ⟨by simp [encs], .inr ⟨w.heap.size, 0, #[], rfl, Nat.le_refl _, ?_, Nat.le_refl _, by decide, by simp, by simp [encs]⟩⟩ (fun k hk => .inl (by simpa [Value.ownBlock] using hk.symm))
    rw [← hW2]
    refine (Below.heap_alloc _ _ _ (by omega)).trans ((HB1.out.block w.heap.size (by omega)).trans ?_)
    rw [← hW0]
    exact (Below.heap_alloc _ _ _ (by rw [World.size_alloc]; omega)).trans (World.alloc_heap_new w _)
  have hB2 : Below w.heap.size w W2 := by
    rw [← hW2]; exact below_alloc (below_then HB0 HB0.size HB1.out) _
  refine wpIn_rangeFunc_ownF rfl (by omega) (gf := 41) (lb := #[.pointer (some ⟨w1.heap.size, 0, none⟩)]) rfl trivial (enters_of Try.func41 (by kernel_rfl) rfl)
    (backward_stops Fence.wide _ trivial rfl (by omega) w1.heap.size g1 n1 rows.length c1 X vals (by omega) A1 hA1 hg2 (hXn g1 hg1) (by omega) (hXn _ hs1) W2 (by omega) hBs
      (fun j hj => by
        obtain ⟨_, _, _, hc, _⟩ := hT W2 (KpB.refl _ _ _) j (by omega)
        rwa [Nat.min_eq_left (by omega)] at hc)
      (fun j hj => by
        obtain ⟨A', c', hv, _⟩ := hT W2 (KpB.refl _ _ _) j (by omega)
        exact ⟨_, _, _, hv⟩))
    KpB.trans (fun W l o o' hl _ _ _ k hk _ => World.putObj_heap_other (by omega)) (Below.refl _ _) (fun _ => rfl)
    (fun pre W => (KpB n1 X W2 W ∧ n1 ≤ W.heap.size) ∧ Below w.heap.size w W ∧ ∃ v, Boxed W (w.heap.size + 1) 22 v ∧ Kd.R (Kd.int .i64) 3 W w.heap.size (fun k => k = w.heap.size ∨ n1 ≤ k) v ((pre.map (fun x => ps.getD (min x (rows.length - 1)) [])).flatten))
    (fun _ _ _ => False)
    (OwnFrom.and (ownFrom_kp (by omega)) (OwnFrom.and (ownFrom_below (Nat.le_refl _) (by omega)) ownFrom_row))
    (fun _ _ _ _ _ hs _ _ => hs)
    ⟨⟨KpB.refl _ _ _, by omega⟩, hB2, _, hbox0, hR0⟩
    (fun x => { tmps := #[.slice A0 l0.length c0, undef, .slice none 0 0, .pointer (some ⟨w.heap.size + 1, 0, none⟩), undef, vals x, .slice (some ⟨w.heap.size, 0, none⟩) 0 0, .slice A0 l0.length c0, .slice A1 rows.length c1, .func (.func 41) #[] #[.pointer (some ⟨w1.heap.size, 0, none⟩)], .int .i64 (x : Int), vals x, undef, undef, undef, undef, undef, undef, undef, undef, undef, undef, undef], defers := [] }) ?assign ?body ?done ?stop
  case assign =>
    intro l x W K hK
    gi_wp2
    exact hK
  case body =>
    rintro l pre x W ⟨⟨hKp, hsz⟩, hB, v, hbox, hR⟩ hlt
    obtain ⟨At, ct, hvx, _, hCt, htl⟩ := hT W hKp x (by omega)
    obtain ⟨x0, q, m, e1, e2, e3, e4⟩ := hps3 (min x (rows.length - 1)) (by omega)
    have hxl : ((pre.map (fun x => ps.getD (min x (rows.length - 1)) [])).flatten).length ≤ pre.length * 1000000 := pcs_len _ 1000000 (fun z => by
      obtain ⟨_, _, _, _, _, a3, a4⟩ := hps3 (min z (rows.length - 1)) (by omega)
      simp only [a3]
      omega) pre
    obtain ⟨xs, hxs⟩ : ∃ xs, (pre.map (fun x => ps.getD (min x (rows.length - 1)) [])).flatten = xs := ⟨_, rfl⟩
    rw [hxs] at hxl hR
    have hxl2 : xs.length ≤ 1000000000000 := by
      have : pre.length * 1000000 ≤ 1000000 * 1000000 := Nat.mul_le_mul_right _ (by omega)
      omega
    have hml : m.length < 1000000 := by rw [List.length_cons] at e4; omega
    have hnv : ∀ k, k < n1 → ¬ X k → v.ownBlock ≠ some k := fun k hk hx e => by
      rcases hR.1 k e with h | h
      · exact hx (by rw [hX]; exact .inl h)
      · omega
    have hnb : v.ownBlock ≠ some (w.heap.size + 1) := fun e => by
      rcases hR.1 _ e with h | h <;> omega
    have hrow : rd_L1 rows ((min x (rows.length - 1) : Nat) : Int) = x0 :: q := by unfold rd_L1; rw [Int.toNat_natCast]; exact e1
    obtain ⟨y, hy⟩ : ∃ y : List Int, y = x0 :: q := ⟨_, rfl⟩
    rw [hrow, ← hy] at hvx hCt htl
    have hy1 : 1 ≤ y.length := by rw [hy, List.length_cons]; omega
    obtain ⟨ad, ea, hx0⟩ := Kd.at_int hCt 0 (by omega) (by omega)
    subst ea
    rw [add_zero_, show rd y 0 = x0 from by rw [hy]; rfl] at hx0
    obtain ⟨i0, hi0, _, hsz0, _⟩ := info_parts info3
    obtain ⟨A', hcut, hA', hC'⟩ := print_drop_of (P := Try.prog) (Value.int .i64) 0 22 3 .i64 Try.underlying22 hi0 hsz0 (some ad) ct y 1 (by omega) (by omega) htl
    rw [show y.drop (1 : Int).toNat = q from by rw [hy]; rfl] at hcut hA' hC'
    rw [show (1 : Int).toNat = 1 from rfl] at hcut hC'
    rw [hvx]
    have HY := Aside0.mk hy
    have HROW := Aside0.mk hrow
    clear hy hrow
    have hmx : Try.prog.follows .mixedOrders = true := by kernel_rfl
    have p5 : (0 : Int) < (y.length : Int) := by omega
    have p6 : 0 < y.length := by omega
    refine wpIn_block ?_
    refine startIn_ (n := 11) (S := fun w' => w'.cell? ⟨w.heap.size + 1, 0, none⟩ = some v ∧ w'.cell? ad = some (.int .i64 x0)) (ds := [5, 8, 9, 10]) #[false, false, false, false, false, false, false, false, false, false, false] hmx rfl rfl (noDef_spec (by kernel_rfl)) (by rintro ⟨a, w, h⟩; exact h) ⟨hbox.cell, hx0⟩ (fun hHeld => ?_)
    refine pure_ (i := 1) (N := some 13) (v := ?_) (a' := ?_) #[false, true, false, false, false, false, false, false, false, false, false] rfl rfl (by kernel_rfl) (fun _ _ _ h => h) (Or.inl ⟨by rfl, ?_⟩) ?_ ?_
    rotate_left
    · intro w'
      go_simp
      with_reducible rfl
    rotate_left
    · simp only [Act.put, List.setIfInBounds_toArray, List.set_cons_zero, List.set_cons_succ, i64_w, i32_w]
      rfl
    refine pure_ (i := 2) (N := some 14) (v := ?_) (a' := ?_) #[false, true, true, false, false, false, false, false, false, false, false] rfl rfl (by kernel_rfl) (fun _ _ _ h => h) (Or.inl ⟨by rfl, ?_⟩) ?_ ?_
    rotate_left
    · intro w'
      go_simp
      with_reducible rfl
    rotate_left
    · simp only [Act.put, List.setIfInBounds_toArray, List.set_cons_zero, List.set_cons_succ, i64_w, i32_w]
      rfl
    refine pure_ (i := 6) (N := some 18) (v := ?_) (a' := ?_) #[false, true, true, false, false, false, true, false, false, false, false] rfl rfl (by kernel_rfl) (fun _ _ _ h => h) (Or.inl ⟨by rfl, ?_⟩) ?_ ?_
    rotate_left
    · intro w'
      go_simp
      with_reducible rfl
    rotate_left
    · simp only [Act.put, List.setIfInBounds_toArray, List.set_cons_zero, List.set_cons_succ, i64_w, i32_w]
      rfl
    refine pure_ (i := 7) (N := some 19) (v := ?_) (a' := ?_) #[false, true, true, false, false, false, true, true, false, false, false] rfl rfl (by kernel_rfl) (fun _ _ _ h => h) (Or.inl ⟨by rfl, ?_⟩) ?_ ?_
    rotate_left
    · intro w'
      go_simp
      with_reducible rfl
    rotate_left
    · simp only [Act.put, List.setIfInBounds_toArray, List.set_cons_zero, List.set_cons_succ, i64_w, i32_w]
      rfl
    refine take_ (i := 0) (N := some 12) (v := ?_) (a' := ?_) #[true, true, true, false, false, false, true, true, false, false, false] rfl rfl (by kernel_rfl) (fun _ _ _ h => h) (Or.inl ⟨by rfl, ?_⟩) hHeld ?_ ?_
    rotate_left
    · intro w' s0
      obtain ⟨s1, s2⟩ := s0
      go_simp
      with_reducible rfl
    rotate_left
    · simp only [Act.put, List.setIfInBounds_toArray, List.set_cons_zero, List.set_cons_succ, i64_w, i32_w]
      rfl
    refine take_ (i := 3) (N := some 15) (v := ?_) (a' := ?_) #[true, true, true, true, false, false, true, true, false, false, false] rfl rfl (by kernel_rfl) (fun _ _ _ h => h) (Or.inl ⟨by rfl, ?_⟩) hHeld ?_ ?_
    rotate_left
    · intro w' s0
      obtain ⟨s1, s2⟩ := s0
      go_simp
      with_reducible rfl
    rotate_left
    · simp only [Act.put, List.setIfInBounds_toArray, List.set_cons_zero, List.set_cons_succ, i64_w, i32_w]
      rfl
    refine one_ (i := 4) (N := some 16) #[true, true, true, true, true, false, true, true, false, false, false] rfl rfl (by kernel_rfl) (by decide) (fun K hK => ?_)
    refine value_ (w1 := W.drew.alloc (.cells #[.int .i64 x0] 3)) (v := .slice (some ⟨W.heap.size, 0, none⟩) 1 1) (by rfl) rfl ?_ ?_
    · go_simp
    refine hK.out _ _ ⟨(hbox.alloc (W := W.drew) _).cell, ((below_alloc (Below.refl _ W.drew) (.cells #[.int .i64 x0] 3)).cell (World.block_lt_of_cell? W.drew _ hx0)).trans hx0⟩ (fun hHeld => ?_)
    clear hK K
    refine norm_ (a' := ?_) ?_ ?_
    rotate_left
    · show Act.put _ (some 16) _ = _
      simp only [Act.put, List.setIfInBounds_toArray, List.set_cons_zero, List.set_cons_succ, i64_w, i32_w]
      rfl
    refine last_ (i := 5) (N := some 17) #[true, true, true, true, true, true, true, true, false, false, false] rfl rfl (by kernel_rfl) (by decide) (fun K hK => ?_)
    refine Kd.R_append_step (Kd.int .i64) (w0 := w) (W := W.drew) w.heap.size (by rfl) (.tmp 12) (.tmp 16) 22 3 (.int .i64 0) 8 rfl Try.underlying22 info3 rfl (by decide) (by omega) v xs x0 [.int .i64 x0] (fun k => k = w.heap.size ∨ n1 ≤ k) (fun _ => False) rfl rfl rfl (fun _ hk => hk.elim) (fun k hk => .inr (Nat.le_trans hsz hk)) (Kd.R_drew hR) (below_drew1 hB) hB.size (by omega) ?_
    intro v6 w6 hR6 hb6 hg6 ha6
    have hk6 : Kept W w6 (fun k => v.ownBlock = some k) := Kept.of_grown hg6 (Kept.refl W _) (fun k e => .inl e)
    refine hK.out _ _ ?_
    clear hK K
    refine norm_ (a' := ?_) ?_ ?_
    rotate_left
    · show Act.put _ (some 17) _ = _
      simp only [Act.put, List.setIfInBounds_toArray, List.set_cons_zero, List.set_cons_succ, i64_w, i32_w]
      rfl
    have hKp6 : KpB n1 X W w6 := fun k hk hx => hk6.2 k (by omega) (fun e => hnv k hk hx e)
    have hC6 : (Kd.int .i64).C w6 A' q.length q := by
      obtain ⟨At2, ct2, hvx2, _, hCt2, _⟩ := hT w6 (hKp.trans hKp6) x (by omega)
      rw [HROW.out, ← HY.out] at hvx2 hCt2
      rw [hvx] at hvx2
      injection hvx2 with e1 _ _
      rw [← e1] at hCt2
      exact Kd.C_of_reads (h1 := fun _ => rfl) (hA' _ (Kd.reads_of_C hCt2))
    refine last_ (i := 8) (N := some 20) #[true, true, true, true, true, true, true, true, true, false, false] rfl rfl (by kernel_rfl) (by decide) (fun K hK => ?_)
    refine goes_ Try.func28 (by kernel_rfl) rfl #[.slice A' q.length (ct - 1)] (by rfl) rfl rfl (by (try simp only [List.map_toArray, List.map_cons, List.map_nil]); first | done | rfl) ?_
    with_reducible refine (ih k (Nat.lt_succ_self k) A' (ct - 1) q m w6 hC6 hC' e2).mono ?_
    rintro e w7 ⟨v7, rfl, hR7, hb7⟩
    refine ⟨_, rfl, ?_⟩
    obtain ⟨A7, c7, e7⟩ := Kd.R_slice hR7
    subst e7
    have hB7 := below_then hb6 hb6.size hb7
    have hk7 : Kept W w7 (fun k => v.ownBlock = some k) := Kept.below hk6 hb7
    refine hK.out _ _ ?_
    clear hK K
    refine norm_ (a' := ?_) ?_ ?_
    rotate_left
    · show Act.put _ (some 20) _ = _
      simp only [Act.put, List.setIfInBounds_toArray, List.set_cons_zero, List.set_cons_succ, i64_w, i32_w]
      rfl
    refine last_ (i := 9) (N := some 21) #[true, true, true, true, true, true, true, true, true, true, false] rfl rfl (by kernel_rfl) (by decide) (fun K hK => ?_)
    refine Kd.R_append_rows_step (Kd.int .i64) (w0 := w) (W := w7) w.heap.size (by rfl) (.tmp 17) (.tmp 20) 22 3 (.int .i64 0) 8 rfl Try.underlying22 info3 rfl (by decide) (by omega) v6 (xs ++ [x0]) m A7 m.length c7 (fun k => k = w.heap.size ∨ n1 ≤ k) (fun _ => False) rfl rfl (Kd.R_below hR6 hb7) (Kd.R_reads' hR7).2.2 (fun _ _ h => h) (fun _ h => h.elim) (fun k hk => .inr (Nat.le_trans hsz (Nat.le_trans hk7.1 hk))) hB7 hB7.size (by rw [List.length_append, List.length_singleton]; omega) ?_
    intro v8 w8 hR8 hb8 hg8 ha8
    have hk8 : Kept W w8 (fun k => v.ownBlock = some k) := Kept.of_grown hg8 hk7 (fun k e => ha6.elim (fun h => .inl (h.symm.trans e)) (fun ⟨b, h, hl⟩ => .inr (by have h2 := h.symm.trans e; injection h2 with h2; rw [← h2]; exact hl)))
    obtain ⟨A8, c8, e8⟩ := Kd.R_slice hR8
    subst e8
    have hbox8 : Boxed w8 (w.heap.size + 1) 22 v := (hk8.2 _ hbox.lt (fun e => hnb e)).trans hbox
    refine hK.out _ _ ?_
    clear hK K
    refine norm_ (a' := ?_) ?_ ?_
    rotate_left
    · show Act.put _ (some 21) _ = _
      simp only [Act.put, List.setIfInBounds_toArray, List.set_cons_zero, List.set_cons_succ, i64_w, i32_w]
      rfl
    have hc8 := hbox8.cell
    have hf8 := hbox8.frozen
    obtain ⟨z8, hz8⟩ : ∃ z, z = xs ++ [x0] ++ m := ⟨_, rfl⟩
    rw [← hz8] at hR8 ⊢
    refine last_ (i := 10) (N := none) #[true, true, true, true, true, true, true, true, true, true, true] rfl rfl (by kernel_rfl) (by decide) (fun K hK => ?_)
    refine skip_ (w1 := w8.setCell ⟨w.heap.size + 1, 0, none⟩ (.slice A8 z8.length c8)) (by rfl) rfl ?_ ?_
    · go_simp
    refine hK.out _ _ ?_
    clear hK K
    refine done_ (by kernel_rfl) ?_
    have hKp9 : KpB n1 X W (w8.setCell ⟨w.heap.size + 1, 0, none⟩ (.slice A8 z8.length c8)) := fun k hk hx => (Below.heap_setCell w8 _ _ k (fun e => hx (by rw [hX]; exact .inr e))).trans (hk8.2 k (by omega) (fun e => hnv k hk hx e))
    refine ⟨⟨?_, fun k o hko hoc => ?_⟩, hKp9, ⟨hKp.trans hKp9, ?_⟩, hb8.setCell (p := ⟨w.heap.size + 1, 0, none⟩) (Nat.le_succ _) _, _, hbox8.set _, ?_⟩
    · rw [World.size_setCell]; exact hk8.1
    · refine (Below.heap_setCell w8 _ _ k (fun e => ?_)).trans ((hk8.2 k (Array.getElem?_eq_some_iff.1 hko).1 (fun e => ?_)).trans hko)
      · rw [e] at hko
        rw [show W.heap[w.heap.size + 1]? = _ from hbox] at hko
        injection hko with hko
        subst hko
        cases hoc
      · obtain ⟨cells, hce⟩ := Kd.R_typed hR k e
        rw [hce] at hko
        injection hko with hko
        subst hko
        cases hoc
    · rw [World.size_setCell]; exact Nat.le_trans hsz hk8.1
    · rw [List.map_append, List.flatten_append, hxs]
      simp only [List.map_cons, List.map_nil, List.flatten_cons, List.flatten_nil, List.append_nil]
      rw [e3, show xs ++ x0 :: m = z8 from by rw [hz8]; simp]
      exact Kd.R_far (p := ⟨w.heap.size + 1, 0, none⟩) hR8 (fun k hk e => by rcases hk with hk | hk <;> (have e2 : k = w.heap.size + 1 := e; omega)) _
  case done =>
    rintro D ys W hD rfl ⟨⟨hK, hsz⟩, hB, v, hbox, hR⟩ hDh
    have hc := hbox.cell
    gi_wp2
    refine ⟨by simp, .inl ⟨_, _, rfl, run_takeDeferred hDh, ?_⟩⟩
    refine ⟨_, results_tmp rfl _ _ _, v, rfl, ?_, hB.trans (belowK_b (w := W2) (n₀ := w.heap.size) (by omega) W D _ _ hD hDh rfl rfl)⟩
    rw [hps2]
    rw [← dnL_pieces ps rows.length hps1]
    refine Kd.R_mono (Kd.R_step (Kd.R_bound hR) (fun k hk _ => World.putObj_heap_other (fun e => ?_))) (fun _ _ => trivial)
    obtain ⟨_, _, _, q, _, cells, hcell⟩ := hk
    rw [e] at hcell
    rw [hDh] at hcell
    cases hcell
  case stop =>
    rintro D c pre W _ _ h _
    exact h.elim
end

/-! ### impl_MirrorForest: function 17 -/
def impl_MirrorForest.f (k : Nat) (l0 : List Int) : Option ((List Int) × Bool) := (impl_areForest.f k l0).bind fun t => (if t = true then ((impl_mirrored.f k l0).bind fun r => (some (r, true))) else (some (([] : List Int), false)))
set_option maxHeartbeats 8000000 in
set_option maxRecDepth 100000 in
theorem impl_MirrorForest.calls (k : Nat) (A0 : Option Addr) (c0 : Nat) (l0 : List Int) (r1 : List Int) (r2 : Bool) (w : World) (hr0 : Kd.C (Kd.int .i64) w A0 l0.length l0) (hc0 : l0.length ≤ c0) (h : impl_MirrorForest.f k l0 = some (r1, r2)) :
    Calls Try.prog 17 #[.slice A0 l0.length c0] w fun e w' => ∃ v0_ : Value, e = .returned (.tuple #[v0_, .bool r2]) ∧ Kd.R (Kd.int .i64) 3 w' w.heap.size (fun _ => True) v0_ r1 ∧ Below w.heap.size w w' := by
  have HR0 := Aside0.mk hr0
  have HC0 := Aside0.mk hc0
  have HB := Aside0.mk (Below.refl w.heap.size w)
  clear hr0 hc0
  unfold impl_MirrorForest.f at h
  obtain ⟨t, A20, H⟩ := Option.bind_eq_some_iff.mp h
  clear h
  have A2 := Aside0.mk A20
  clear A20
  cases t with
  | true =>
    simp only [if_true] at H
    obtain ⟨t1, A40, H⟩ := Option.bind_eq_some_iff.mp H
    have A4 := Aside0.mk A40
    clear A40
    simp only [Option.some.injEq, Prod.mk.injEq] at H
    obtain ⟨rfl, rfl⟩ := H
    go_enter Try.func17, Try.ntmps17
    go_wp2_with (first | ((with_reducible refine gate_callee (f := 21) rfl ?_); refine goesL_ (some 5) rfl rfl Try.func21 (by kernel_rfl) rfl #[.slice A0 l0.length c0] rfl (by (try simp only [List.map_toArray, List.map_cons, List.map_nil]); first | done | rfl) ?_; (with_reducible refine (impl_areForest.calls k _ _ l0 true _ ?side1 HC0.out A2.out).mono ?_); (case side1 => repeat (first | exact HR0.out | (with_reducible refine Kd.C_alloc ?_ _) | (with_reducible refine Kd.C_drewN ?_ _) | (with_reducible refine Kd.C_drew ?_))); rintro e w' ⟨rfl, ⟨nd, rfl⟩⟩; refine ⟨_, rfl, ?_⟩) | ((with_reducible refine gate_callee (f := 28) rfl ?_); refine goesL_ (some 8) rfl rfl Try.func28 (by kernel_rfl) rfl #[.slice A0 l0.length c0] rfl (by (try simp only [List.map_toArray, List.map_cons, List.map_nil]); first | done | rfl) ?_; (with_reducible refine (impl_mirrored.calls k _ _ l0 t1 _ ?side1 HC0.out A4.out).mono ?_); (case side1 => repeat (first | exact HR0.out | (with_reducible refine Kd.C_alloc ?_ _) | (with_reducible refine Kd.C_drewN ?_ _) | (with_reducible refine Kd.C_drew ?_))); rintro e w9 ⟨v9, rfl, hs9, hb9⟩; refine ⟨_, rfl, ?_⟩; have HS := Aside0.mk (Kd.R_lower hs9 (below_size (by repeat (first | (with_reducible first | exact HB.out | apply below_alloc | apply pw_below_drewN | apply below_drew1) | exact HB.out)))); have hb_ := Aside0.mk (below_step (by repeat (first | (with_reducible first | exact HB.out | apply below_alloc | apply pw_below_drewN | apply below_drew1) | exact HB.out)) hb9); clear HB; have HB := hb_; clear hb_ hs9 hb9))
    go_ret2
    exact ⟨_, rfl, by (with_reducible repeat (first | apply Kd.R_alloc | apply Kd.R_drewN | apply Kd.R_drew)); exact HS.out, by repeat (first | (with_reducible first | exact HB.out | apply below_alloc | apply pw_below_drewN | apply below_drew1) | exact HB.out)⟩
  | false =>
    simp only [Bool.false_eq_true, if_false, Option.some.injEq, Prod.mk.injEq] at H
    obtain ⟨rfl, rfl⟩ := H
    go_enter Try.func17, Try.ntmps17
    go_wp2_with (first | ((with_reducible refine gate_callee (f := 21) rfl ?_); refine goesL_ (some 5) rfl rfl Try.func21 (by kernel_rfl) rfl #[.slice A0 l0.length c0] rfl (by (try simp only [List.map_toArray, List.map_cons, List.map_nil]); first | done | rfl) ?_; (with_reducible refine (impl_areForest.calls k _ _ l0 false _ ?side1 HC0.out A2.out).mono ?_); (case side1 => repeat (first | exact HR0.out | (with_reducible refine Kd.C_alloc ?_ _) | (with_reducible refine Kd.C_drewN ?_ _) | (with_reducible refine Kd.C_drew ?_))); rintro e w' ⟨rfl, ⟨nd, rfl⟩⟩; refine ⟨_, rfl, ?_⟩))
    go_ret2
    exact ⟨_, rfl, Kd.R_nil _ _ _ _ _, by repeat (first | (with_reducible first | exact HB.out | apply below_alloc | apply pw_below_drewN | apply below_drew1) | exact HB.out)⟩


set_option maxHeartbeats 8000000 in
set_option maxRecDepth 100000 in
theorem laws_FnExactMirrorForest.calls (k : Nat) (A0 : Option Addr) (c0 : Nat) (l0 : List Int) (w : World) (hr0 : Kd.C (Kd.int .i64) w A0 l0.length l0) (hc0 : l0.length ≤ c0) (rs rs2 : List Int) (b : Bool) (lm : List Int) (km m : Int)
    (hs : (l0.length : Int) ≤ 1048576) (h1 : laws_toIntS.f k l0 = some l0) (h2 : spec_MirrorForest.f k l0 = some (rs, b)) (h3 : impl_MirrorForest.f k l0 = some (rs, b)) (h4 : laws_eqIntS.f k rs rs = some true) (h5 : laws_eqIntS.f k l0 l0 = some true)
    (h6 : laws_markIntS.f k l0 1 = some (km, lm)) (hkm : 0 ≤ km) (h7 : laws_markIntS.f k rs 1 = some (m, rs2)) (h8 : laws_heldIntS.f k rs2 1 = some m) (hm : 0 ≤ m) (hl : rs2.length = rs.length) :
    Calls Try.prog 5 #[.slice A0 l0.length c0] w fun e w' => e = .returned (.bool true) ∧ Below w.heap.size w w' := by
  have HR0 := Aside0.mk hr0
  have HC0 := Aside0.mk hc0
  have HL := Aside0.mk hl
  have H1 := Aside0.mk h1
  have H2 := Aside0.mk h2
  have H3 := Aside0.mk h3
  have H4 := Aside0.mk h4
  have H5 := Aside0.mk h5
  have H6 := Aside0.mk h6
  have H7 := Aside0.mk h7
  have H8 := Aside0.mk h8
  have HB := Aside0.mk (Below.refl w.heap.size w)
  have c2b0 : decide (1048576 < (l0.length : Int)) = false := decide_eq_false (by omega)
  have c2b1 : decide (1048576 < l0.length) = false := decide_eq_false (by omega)
  have c3b0 : decide (km < 0) = false := decide_eq_false (by omega)
  have c4b0 : decide (m < 0) = false := decide_eq_false (by omega)
  clear hr0 hc0 hl h1 h2 h3 h4 h5 h6 h7 h8 hs hkm hm
  go_enter Try.func5, Try.ntmps5
  go_wp2_with (first | ((with_reducible refine gate_callee (f := 7) rfl ?_); refine goesL_ (some 18) rfl rfl Try.func7 (by kernel_rfl) rfl #[.slice A0 l0.length c0] rfl (by (try simp only [List.map_toArray, List.map_cons, List.map_nil]); first | done | rfl | (simp only [List.length_drop, List.length_take]; rfl)) ?_; (with_reducible refine (laws_toIntS.calls k _ _ l0 l0 _ ?side1 ?side2 H1.out).mono ?_); (case side1 => repeat (first | exact (Kd.C_below HR0.out HB.out) | (with_reducible refine Kd.C_alloc ?_ _) | (with_reducible refine Kd.C_drewN ?_ _) | (with_reducible refine Kd.C_drew ?_))); (case side2 => exact HC0.out); rintro e w1 ⟨va, rfl, ho0, hb⟩; refine ⟨_, rfl, ?_⟩; obtain ⟨nw1, hnw1⟩ : ∃ n_, n_ = w1.heap.size := ⟨_, rfl⟩; have mn_ := Aside0.mk (Kd.R_mono (ok' := (fun _ => True)) (Kd.R_lower (Kd.R_bound ho0) (below_size (by repeat (first | (with_reducible first | exact HB.out | apply below_alloc | apply pw_below_drewN | apply below_drew1) | exact HB.out)))) (fun k_ hk_ => trivial)); have mb_ := Aside0.mk (below_step (by repeat (first | (with_reducible first | exact HB.out | apply below_alloc | apply pw_below_drewN | apply below_drew1) | exact HB.out)) hb); clear HB ; have HB := mb_; have Fa := mn_; clear mn_ mb_ ; clear hb ho0; obtain ⟨Aoa, coa, eoa⟩ := Kd.R_slice Fa.out; subst eoa) | ((with_reducible refine gate_callee (f := 16) rfl ?_); refine goesL_ (some 19) rfl rfl Try.func16 (by kernel_rfl) rfl #[.slice Aoa l0.length coa] rfl (by (try simp only [List.map_toArray, List.map_cons, List.map_nil]); first | done | rfl | (simp only [List.length_drop, List.length_take]; rfl)) ?_; (with_reducible refine (spec_MirrorForest.calls k _ _ l0 rs b _ ?side1 ?side2 H2.out).mono ?_); (case side1 => repeat (first | exact (Kd.R_reads' Fa.out).2.2 | (with_reducible refine Kd.C_alloc ?_ _) | (with_reducible refine Kd.C_drewN ?_ _) | (with_reducible refine Kd.C_drew ?_))); (case side2 => exact (Kd.R_reads' Fa.out).2.1); rintro e w2 ⟨vb, rfl, ho0, hb⟩; refine ⟨_, rfl, ?_⟩; obtain ⟨nw2, hnw2⟩ : ∃ n_, n_ = w2.heap.size := ⟨_, rfl⟩; have m0_ := Aside0.mk (Kd.R_below (by (with_reducible repeat (first | apply Kd.R_alloc | apply Kd.R_drewN | apply Kd.R_drew)); exact Fa.out) hb); have mn_ := Aside0.mk (Kd.R_mono (ok' := (fun k_ => k_ < nw2)) (Kd.R_lower (Kd.R_bound ho0) (below_size (by repeat (first | (with_reducible first | exact HB.out | apply below_alloc | apply pw_below_drewN | apply below_drew1) | exact HB.out)))) (fun k_ hk_ => (show k_ < nw2 from (by rw [hnw2]; exact hk_.2.2.1)))); have mb_ := Aside0.mk (below_step (by repeat (first | (with_reducible first | exact HB.out | apply below_alloc | apply pw_below_drewN | apply below_drew1) | exact HB.out)) hb); clear HB Fa; have HB := mb_; have Fa := m0_; have Fb := mn_; clear mn_ mb_ m0_; clear hb ho0; obtain ⟨Aob, cob, eob⟩ := Kd.R_slice Fb.out; subst eob; clear Fa) | ((with_reducible refine gate_callee (f := 7) rfl ?_); refine goesL_ (some 23) rfl rfl Try.func7 (by kernel_rfl) rfl #[.slice A0 l0.length c0] rfl (by (try simp only [List.map_toArray, List.map_cons, List.map_nil]); first | done | rfl | (simp only [List.length_drop, List.length_take]; rfl)) ?_; (with_reducible refine (laws_toIntS.calls k _ _ l0 l0 _ ?side1 ?side2 H1.out).mono ?_); (case side1 => repeat (first | exact (Kd.C_below HR0.out HB.out) | (with_reducible refine Kd.C_alloc ?_ _) | (with_reducible refine Kd.C_drewN ?_ _) | (with_reducible refine Kd.C_drew ?_))); (case side2 => exact HC0.out); rintro e w3 ⟨vc, rfl, ho0, hb⟩; refine ⟨_, rfl, ?_⟩; obtain ⟨nw3, hnw3⟩ : ∃ n_, n_ = w3.heap.size := ⟨_, rfl⟩; have HN := Aside0.mk (show nw2 ≤ nw3 from by rw [hnw2, hnw3]; exact hb.size); have m0_ := Aside0.mk (Kd.R_below (by (with_reducible repeat (first | apply Kd.R_alloc | apply Kd.R_drewN | apply Kd.R_drew)); exact Fb.out) hb); have mn_ := Aside0.mk (Kd.R_mono (ok' := (fun k_ => nw2 ≤ k_ ∧ k_ < nw3)) (Kd.R_lower (Kd.R_bound ho0) (below_size (by repeat (first | (with_reducible first | exact HB.out | apply below_alloc | apply pw_below_drewN | apply below_drew1) | exact HB.out)))) (fun k_ hk_ => ⟨(show nw2 ≤ k_ from (by rw [hnw2]; exact hk_.2.1)), (show k_ < nw3 from (by rw [hnw3]; exact hk_.2.2.1))⟩)); have mb_ := Aside0.mk (below_step (by repeat (first | (with_reducible first | exact HB.out | apply below_alloc | apply pw_below_drewN | apply below_drew1) | exact HB.out)) hb); clear HB Fb; have HB := mb_; have Fb := m0_; have Fc := mn_; clear mn_ mb_ m0_; clear hb ho0; obtain ⟨Aoc, coc, eoc⟩ := Kd.R_slice Fc.out; subst eoc) | ((with_reducible refine gate_callee (f := 17) rfl ?_); refine goesL_ (some 26) rfl rfl Try.func17 (by kernel_rfl) rfl #[.slice Aoc l0.length coc] rfl (by (try simp only [List.map_toArray, List.map_cons, List.map_nil]); first | done | rfl | (simp only [List.length_drop, List.length_take]; rfl)) ?_; (with_reducible refine (impl_MirrorForest.calls k _ _ l0 rs b _ ?side1 ?side2 H3.out).mono ?_); (case side1 => repeat (first | exact (Kd.R_reads' Fc.out).2.2 | (with_reducible refine Kd.C_alloc ?_ _) | (with_reducible refine Kd.C_drewN ?_ _) | (with_reducible refine Kd.C_drew ?_))); (case side2 => exact (Kd.R_reads' Fc.out).2.1); rintro e w4 ⟨vd, rfl, ho0, hb⟩; refine ⟨_, rfl, ?_⟩; obtain ⟨nw4, hnw4⟩ : ∃ n_, n_ = w4.heap.size := ⟨_, rfl⟩; have m0_ := Aside0.mk (Kd.R_below (by (with_reducible repeat (first | apply Kd.R_alloc | apply Kd.R_drewN | apply Kd.R_drew)); exact Fb.out) hb); have m1_ := Aside0.mk (Kd.R_below (by (with_reducible repeat (first | apply Kd.R_alloc | apply Kd.R_drewN | apply Kd.R_drew)); exact Fc.out) hb); have mn_ := Aside0.mk (Kd.R_mono (ok' := (fun k_ => nw3 ≤ k_)) (Kd.R_lower (Kd.R_bound ho0) (below_size (by repeat (first | (with_reducible first | exact HB.out | apply below_alloc | apply pw_below_drewN | apply below_drew1) | exact HB.out)))) (fun k_ hk_ => (show nw3 ≤ k_ from (by rw [hnw3]; exact hk_.2.1)))); have mb_ := Aside0.mk (below_step (by repeat (first | (with_reducible first | exact HB.out | apply below_alloc | apply pw_below_drewN | apply below_drew1) | exact HB.out)) hb); clear HB Fb Fc; have HB := mb_; have Fb := m0_; have Fc := m1_; have Fd := mn_; clear mn_ mb_ m0_ m1_; clear hb ho0; obtain ⟨Aod, cod, eod⟩ := Kd.R_slice Fd.out; subst eod) | ((with_reducible refine gate_callee (f := 10) rfl ?_); refine goesL_ (some 31) rfl rfl Try.func10 (by kernel_rfl) rfl #[.slice Aod rs.length cod, .slice Aob rs.length cob] rfl (by (try simp only [List.map_toArray, List.map_cons, List.map_nil]); first | done | rfl | (simp only [List.length_drop, List.length_take]; rfl)) ?_; (with_reducible refine (laws_eqIntS.calls k _ _ rs _ _ rs true _ ?side1 ?side2 ?side3 ?side4 H4.out).mono ?_); (case side1 => repeat (first | exact (Kd.R_reads' Fd.out).2.2 | (with_reducible refine Kd.C_alloc ?_ _) | (with_reducible refine Kd.C_drewN ?_ _) | (with_reducible refine Kd.C_drew ?_))); (case side2 => exact (Kd.R_reads' Fd.out).2.1); (case side3 => repeat (first | exact (Kd.R_reads' Fb.out).2.2 | (with_reducible refine Kd.C_alloc ?_ _) | (with_reducible refine Kd.C_drewN ?_ _) | (with_reducible refine Kd.C_drew ?_))); (case side4 => exact (Kd.R_reads' Fb.out).2.1); rintro e w' ⟨rfl, ⟨nd, rfl⟩⟩; refine ⟨_, rfl, ?_⟩) | ((with_reducible refine gate_callee (f := 7) rfl ?_); refine goesL_ (some 40) rfl rfl Try.func7 (by kernel_rfl) rfl #[.slice A0 l0.length c0] rfl (by (try simp only [List.map_toArray, List.map_cons, List.map_nil]); first | done | rfl | (simp only [List.length_drop, List.length_take]; rfl)) ?_; (with_reducible refine (laws_toIntS.calls k _ _ l0 l0 _ ?side1 ?side2 H1.out).mono ?_); (case side1 => repeat (first | exact (Kd.C_below HR0.out HB.out) | (with_reducible refine Kd.C_alloc ?_ _) | (with_reducible refine Kd.C_drewN ?_ _) | (with_reducible refine Kd.C_drew ?_))); (case side2 => exact HC0.out); rintro e w5 ⟨ve, rfl, ho0, hb⟩; refine ⟨_, rfl, ?_⟩; obtain ⟨nw5, hnw5⟩ : ∃ n_, n_ = w5.heap.size := ⟨_, rfl⟩; have m0_ := Aside0.mk (Kd.R_below (by (with_reducible repeat (first | apply Kd.R_alloc | apply Kd.R_drewN | apply Kd.R_drew)); exact Fb.out) hb); have m1_ := Aside0.mk (Kd.R_below (by (with_reducible repeat (first | apply Kd.R_alloc | apply Kd.R_drewN | apply Kd.R_drew)); exact Fc.out) hb); have m2_ := Aside0.mk (Kd.R_below (by (with_reducible repeat (first | apply Kd.R_alloc | apply Kd.R_drewN | apply Kd.R_drew)); exact Fd.out) hb); have mn_ := Aside0.mk (Kd.R_mono (ok' := (fun _ => True)) (Kd.R_lower (Kd.R_bound ho0) (below_size (by repeat (first | (with_reducible first | exact HB.out | apply below_alloc | apply pw_below_drewN | apply below_drew1) | exact HB.out)))) (fun k_ hk_ => trivial)); have mb_ := Aside0.mk (below_step (by repeat (first | (with_reducible first | exact HB.out | apply below_alloc | apply pw_below_drewN | apply below_drew1) | exact HB.out)) hb); clear HB Fb Fc Fd; have HB := mb_; have Fb := m0_; have Fc := m1_; have Fd := m2_; have Fe := mn_; clear mn_ mb_ m0_ m1_ m2_; clear hb ho0; obtain ⟨Aoe, coe, eoe⟩ := Kd.R_slice Fe.out; subst eoe) | ((with_reducible refine gate_callee (f := 10) rfl ?_); refine goesL_ (some 41) rfl rfl Try.func10 (by kernel_rfl) rfl #[.slice Aoc l0.length coc, .slice Aoe l0.length coe] rfl (by (try simp only [List.map_toArray, List.map_cons, List.map_nil]); first | done | rfl | (simp only [List.length_drop, List.length_take]; rfl)) ?_; (with_reducible refine (laws_eqIntS.calls k _ _ l0 _ _ l0 true _ ?side1 ?side2 ?side3 ?side4 H5.out).mono ?_); (case side1 => repeat (first | exact (Kd.R_reads' Fc.out).2.2 | (with_reducible refine Kd.C_alloc ?_ _) | (with_reducible refine Kd.C_drewN ?_ _) | (with_reducible refine Kd.C_drew ?_))); (case side2 => exact (Kd.R_reads' Fc.out).2.1); (case side3 => repeat (first | exact (Kd.R_reads' Fe.out).2.2 | (with_reducible refine Kd.C_alloc ?_ _) | (with_reducible refine Kd.C_drewN ?_ _) | (with_reducible refine Kd.C_drew ?_))); (case side4 => exact (Kd.R_reads' Fe.out).2.1); rintro e w' ⟨rfl, ⟨nd, rfl⟩⟩; refine ⟨_, rfl, ?_⟩; clear Fe) | ((with_reducible refine gate_callee (f := 11) rfl ?_); refine goesL_ (some 45) rfl rfl Try.func11 (by kernel_rfl) rfl #[.slice Aoc l0.length coc, .int .i64 1] rfl (by (try simp only [List.map_toArray, List.map_cons, List.map_nil]); first | done | rfl | (simp only [List.length_drop, List.length_take]; rfl)) ?_; (with_reducible refine (laws_markIntS.calls k (fun k_ => nw2 ≤ k_ ∧ k_ < nw3) (.slice Aoc l0.length coc) l0 1 km lm w _ ?side1 ?side2 H6.out).mono ?_); (case side1 => repeat (first | (with_reducible first | exact HB.out | apply below_alloc | apply pw_below_drewN | apply below_drew1) | exact HB.out)); (case side2 => exact (by (with_reducible repeat (first | apply Kd.R_alloc | apply Kd.R_drewN | apply Kd.R_drew)); exact Fc.out)); rintro e w6 ⟨rfl, hy0, hb, hkp⟩; refine ⟨_, rfl, ?_⟩; have m0_ := Aside0.mk (Kd.R_kept (by (with_reducible repeat (first | apply Kd.R_alloc | apply Kd.R_drewN | apply Kd.R_drew)); exact Fb.out) hkp (fun k_ (hk_ : k_ < nw2) (hs_ : nw2 ≤ k_ ∧ k_ < nw3) => absurd hs_.1 (Nat.not_le.2 hk_))); have m1_ := Aside0.mk (Kd.R_kept (by (with_reducible repeat (first | apply Kd.R_alloc | apply Kd.R_drewN | apply Kd.R_drew)); exact Fd.out) hkp (fun k_ (hk_ : nw3 ≤ k_) (hs_ : nw2 ≤ k_ ∧ k_ < nw3) => absurd hk_ (Nat.not_le.2 hs_.2))); have mb_ := Aside0.mk hb; have my_ := Aside0.mk (Kd.R_reok rfl hy0 (fun k_ e_ => Fc.out.1 k_ e_)); clear HB Fb Fc Fd; have HB := mb_; have Fb := m0_; have Fd := m1_; clear my_ mb_ m0_ m1_; clear hb hkp hy0) | ((with_reducible refine gate_callee (f := 11) rfl ?_); refine goesL_ (some 61) rfl rfl Try.func11 (by kernel_rfl) rfl #[.slice Aod rs.length cod, .int .i64 1] rfl (by (try simp only [List.map_toArray, List.map_cons, List.map_nil]); first | done | rfl | (simp only [List.length_drop, List.length_take]; rfl)) ?_; (with_reducible refine (laws_markIntS.calls k (fun k_ => nw3 ≤ k_) (.slice Aod rs.length cod) rs 1 m rs2 w _ ?side1 ?side2 H7.out).mono ?_); (case side1 => repeat (first | (with_reducible first | exact HB.out | apply below_alloc | apply pw_below_drewN | apply below_drew1) | exact HB.out)); (case side2 => exact (by (with_reducible repeat (first | apply Kd.R_alloc | apply Kd.R_drewN | apply Kd.R_drew)); exact Fd.out)); rintro e w7 ⟨rfl, hy0, hb, hkp⟩; refine ⟨_, rfl, ?_⟩; have m0_ := Aside0.mk (Kd.R_kept (by (with_reducible repeat (first | apply Kd.R_alloc | apply Kd.R_drewN | apply Kd.R_drew)); exact Fb.out) hkp (fun k_ (hk_ : k_ < nw2) (hs_ : nw3 ≤ k_) => absurd (Nat.le_trans HN.out hs_) (Nat.not_le.2 hk_))); have mb_ := Aside0.mk hb; have my_ := Aside0.mk (Kd.R_reok rfl hy0 (fun k_ e_ => Fd.out.1 k_ e_)); clear HB Fb Fd; have HB := mb_; have Fb := m0_; have Fd := my_; clear my_ mb_ m0_; clear hb hkp hy0) | ((with_reducible refine gate_callee (f := 18) rfl ?_); refine goesL_ (some 64) rfl rfl Try.func18 (by kernel_rfl) rfl #[.slice Aod rs2.length cod, .int .i64 1] rfl (by (try simp only [List.map_toArray, List.map_cons, List.map_nil]); rw [HL.out] <;> rfl) ?_; (with_reducible refine (laws_heldIntS.calls k _ _ rs2 1 m _ ?side1 ?side2 H8.out).mono ?_); (case side1 => repeat (first | exact (Kd.R_reads' Fd.out).2.2 | (with_reducible refine Kd.C_alloc ?_ _) | (with_reducible refine Kd.C_drewN ?_ _) | (with_reducible refine Kd.C_drew ?_))); (case side2 => (rw [HL.out]; exact (Kd.R_reads' Fd.out).2.1)); rintro e w' ⟨rfl, ⟨nd, rfl⟩⟩; refine ⟨_, rfl, ?_⟩) | ((with_reducible refine gate_callee (f := 7) rfl ?_); refine goesL_ (some 72) rfl rfl Try.func7 (by kernel_rfl) rfl #[.slice A0 l0.length c0] rfl (by (try simp only [List.map_toArray, List.map_cons, List.map_nil]); first | done | rfl | (simp only [List.length_drop, List.length_take]; rfl)) ?_; (with_reducible refine (laws_toIntS.calls k _ _ l0 l0 _ ?side1 ?side2 H1.out).mono ?_); (case side1 => repeat (first | exact (Kd.C_below HR0.out HB.out) | (with_reducible refine Kd.C_alloc ?_ _) | (with_reducible refine Kd.C_drewN ?_ _) | (with_reducible refine Kd.C_drew ?_))); (case side2 => exact HC0.out); rintro e w8 ⟨vl, rfl, ho0, hb⟩; refine ⟨_, rfl, ?_⟩; obtain ⟨nw8, hnw8⟩ : ∃ n_, n_ = w8.heap.size := ⟨_, rfl⟩; have m0_ := Aside0.mk (Kd.R_below (by (with_reducible repeat (first | apply Kd.R_alloc | apply Kd.R_drewN | apply Kd.R_drew)); exact Fb.out) hb); have m1_ := Aside0.mk (Kd.R_below (by (with_reducible repeat (first | apply Kd.R_alloc | apply Kd.R_drewN | apply Kd.R_drew)); exact Fd.out) hb); have mn_ := Aside0.mk (Kd.R_mono (ok' := (fun _ => True)) (Kd.R_lower (Kd.R_bound ho0) (below_size (by repeat (first | (with_reducible first | exact HB.out | apply below_alloc | apply pw_below_drewN | apply below_drew1) | exact HB.out)))) (fun k_ hk_ => trivial)); have mb_ := Aside0.mk (below_step (by repeat (first | (with_reducible first | exact HB.out | apply below_alloc | apply pw_below_drewN | apply below_drew1) | exact HB.out)) hb); clear HB Fb Fd; have HB := mb_; have Fb := m0_; have Fd := m1_; have Fl := mn_; clear mn_ mb_ m0_ m1_; clear hb ho0; obtain ⟨Aol, col, eol⟩ := Kd.R_slice Fl.out; subst eol) | ((with_reducible refine gate_callee (f := 17) rfl ?_); refine goesL_ (some 73) rfl rfl Try.func17 (by kernel_rfl) rfl #[.slice Aol l0.length col] rfl (by (try simp only [List.map_toArray, List.map_cons, List.map_nil]); first | done | rfl | (simp only [List.length_drop, List.length_take]; rfl)) ?_; (with_reducible refine (impl_MirrorForest.calls k _ _ l0 rs b _ ?side1 ?side2 H3.out).mono ?_); (case side1 => repeat (first | exact (Kd.R_reads' Fl.out).2.2 | (with_reducible refine Kd.C_alloc ?_ _) | (with_reducible refine Kd.C_drewN ?_ _) | (with_reducible refine Kd.C_drew ?_))); (case side2 => exact (Kd.R_reads' Fl.out).2.1); rintro e w9 ⟨vm, rfl, ho0, hb⟩; refine ⟨_, rfl, ?_⟩; obtain ⟨nw9, hnw9⟩ : ∃ n_, n_ = w9.heap.size := ⟨_, rfl⟩; have m0_ := Aside0.mk (Kd.R_below (by (with_reducible repeat (first | apply Kd.R_alloc | apply Kd.R_drewN | apply Kd.R_drew)); exact Fb.out) hb); have m1_ := Aside0.mk (Kd.R_below (by (with_reducible repeat (first | apply Kd.R_alloc | apply Kd.R_drewN | apply Kd.R_drew)); exact Fd.out) hb); have m2_ := Aside0.mk (Kd.R_below (by (with_reducible repeat (first | apply Kd.R_alloc | apply Kd.R_drewN | apply Kd.R_drew)); exact Fl.out) hb); have mn_ := Aside0.mk (Kd.R_mono (ok' := (fun _ => True)) (Kd.R_lower (Kd.R_bound ho0) (below_size (by repeat (first | (with_reducible first | exact HB.out | apply below_alloc | apply pw_below_drewN | apply below_drew1) | exact HB.out)))) (fun k_ hk_ => trivial)); have mb_ := Aside0.mk (below_step (by repeat (first | (with_reducible first | exact HB.out | apply below_alloc | apply pw_below_drewN | apply below_drew1) | exact HB.out)) hb); clear HB Fb Fd Fl; have HB := mb_; have Fb := m0_; have Fd := m1_; have Fl := m2_; have Fm := mn_; clear mn_ mb_ m0_ m1_ m2_; clear hb ho0; obtain ⟨Aom, com, eom⟩ := Kd.R_slice Fm.out; subst eom; clear Fl) | ((with_reducible refine gate_callee (f := 10) rfl ?_); refine goesL_ (some 78) rfl rfl Try.func10 (by kernel_rfl) rfl #[.slice Aom rs.length com, .slice Aob rs.length cob] rfl (by (try simp only [List.map_toArray, List.map_cons, List.map_nil]); first | done | rfl | (simp only [List.length_drop, List.length_take]; rfl)) ?_; (with_reducible refine (laws_eqIntS.calls k _ _ rs _ _ rs true _ ?side1 ?side2 ?side3 ?side4 H4.out).mono ?_); (case side1 => repeat (first | exact (Kd.R_reads' Fm.out).2.2 | (with_reducible refine Kd.C_alloc ?_ _) | (with_reducible refine Kd.C_drewN ?_ _) | (with_reducible refine Kd.C_drew ?_))); (case side2 => exact (Kd.R_reads' Fm.out).2.1); (case side3 => repeat (first | exact (Kd.R_reads' Fb.out).2.2 | (with_reducible refine Kd.C_alloc ?_ _) | (with_reducible refine Kd.C_drewN ?_ _) | (with_reducible refine Kd.C_drew ?_))); (case side4 => exact (Kd.R_reads' Fb.out).2.1); rintro e w' ⟨rfl, ⟨nd, rfl⟩⟩; refine ⟨_, rfl, ?_⟩) | ((with_reducible refine gate_callee (f := 18) rfl ?_); refine goesL_ (some 87) rfl rfl Try.func18 (by kernel_rfl) rfl #[.slice Aod rs2.length cod, .int .i64 1] rfl (by (try simp only [List.map_toArray, List.map_cons, List.map_nil]); rw [HL.out] <;> rfl) ?_; (with_reducible refine (laws_heldIntS.calls k _ _ rs2 1 m _ ?side1 ?side2 H8.out).mono ?_); (case side1 => repeat (first | exact (Kd.R_reads' Fd.out).2.2 | (with_reducible refine Kd.C_alloc ?_ _) | (with_reducible refine Kd.C_drewN ?_ _) | (with_reducible refine Kd.C_drew ?_))); (case side2 => (rw [HL.out]; exact (Kd.R_reads' Fd.out).2.1)); rintro e w' ⟨rfl, ⟨nd, rfl⟩⟩; refine ⟨_, rfl, ?_⟩) | (go_at_call 10; (with_reducible refine (laws_eqIntS.calls k _ _ rs _ _ rs true _ ?side1 ?side2 ?side3 ?side4 H4.out).mono ?_); (case side1 => repeat (first | exact (Kd.R_reads' Fd.out).2.2 | (with_reducible refine Kd.C_alloc ?_ _) | (with_reducible refine Kd.C_drewN ?_ _) | (with_reducible refine Kd.C_drew ?_))); (case side2 => exact (Kd.R_reads' Fd.out).2.1); (case side3 => repeat (first | exact (Kd.R_reads' Fb.out).2.2 | (with_reducible refine Kd.C_alloc ?_ _) | (with_reducible refine Kd.C_drewN ?_ _) | (with_reducible refine Kd.C_drew ?_))); (case side4 => exact (Kd.R_reads' Fb.out).2.1); rintro e w' ⟨rfl, ⟨nd, rfl⟩⟩))
  go_ret
  exact ⟨by first | rfl | (simp; done) | (simp [*]; done), by repeat (first | (with_reducible first | exact HB.out | apply below_alloc | apply pw_below_drewN | apply below_drew1) | exact HB.out)⟩

set_option maxHeartbeats 8000000 in
set_option maxRecDepth 100000 in
theorem laws_FnExactMirrorForest.far (A0 : Option Addr) (c0 : Nat) (l0 : List Int) (w : World) (hs : (l0.length : Int) > 1048576) :
    Calls Try.prog 5 #[.slice A0 l0.length c0] w fun e w' => e = .returned (.bool true) ∧ Below w.heap.size w w' := by
  have HB := Aside0.mk (Below.refl w.heap.size w)
  have c2b0 : decide (1048576 < (l0.length : Int)) = true := decide_eq_true hs
  have c2b1 : decide (1048576 < l0.length) = true := decide_eq_true (by omega)
  clear hs
  go_enter Try.func5, Try.ntmps5
  go_wp2
  go_ret
  exact ⟨by first | rfl | (simp; done) | (simp [*]; done), by repeat (first | (with_reducible first | exact HB.out | apply below_alloc | apply pw_below_drewN | apply below_drew1) | exact HB.out)⟩
/-- THE PURE STATEMENT of the law: what its calls tell, one by one. -/
def laws_FnExactMirrorForest.Pure : Prop := ∀ (l0 : List Int), l0.length ≤ maxLen → l0.length * 8 ≤ 140737488351232 → (∀ x ∈ l0, (Lit.int .i64 x).wf = true) → (l0.length : Int) ≤ 1048576 →
  ∃ (k : Nat) (rs rs2 : List Int) (b : Bool) (lm : List Int) (km m : Int), laws_toIntS.f k l0 = some l0 ∧ spec_MirrorForest.f k l0 = some (rs, b) ∧ impl_MirrorForest.f k l0 = some (rs, b) ∧ laws_eqIntS.f k rs rs = some true ∧ laws_eqIntS.f k l0 l0 = some true ∧
    laws_markIntS.f k l0 1 = some (km, lm) ∧ 0 ≤ km ∧ laws_markIntS.f k rs 1 = some (m, rs2) ∧ laws_heldIntS.f k rs2 1 = some m ∧ 0 ≤ m ∧ rs2.length = rs.length
theorem laws_FnExactMirrorForest.walk (P : laws_FnExactMirrorForest.Pure) (a0 : Option Addr) (len0 cap0 : Nat) (z0 : List Int) (w : World) (w0 : (a0 = none ∧ len0 = 0 ∧ cap0 = 0 ∧ z0 = []) ∨ ∃ x, a0 = some x ∧ len0 ≤ cap0 ∧ cap0 ≤ maxLen ∧ z0.length = cap0 ∧ (∀ i, i < z0.length → w.cell? (x.add i) = some (.int .i64 (z0.getD i 0))) ∧ ∀ n ∈ z0, (Lit.int .i64 n).wf = true) (y0 : len0 * 8 ≤ 140737488351232) :
    Calls Try.prog 5 #[.slice a0 len0 cap0] w fun e w' => e = .returned (.bool true) ∧ Below w.heap.size w w' := by
  obtain ⟨l0, rfl, hr0, hm0, hw0, hc0⟩ := ReadsInt.ofRowC w0
  by_cases hbig : (l0.length : Int) > 1048576
  · exact laws_FnExactMirrorForest.far _ _ l0 w hbig
  · obtain ⟨k, rs, rs2, b, lm, km, m, h1, h2, h3, h4, h5, h6, h7, h8, h9, h10, h11⟩ := P l0 hm0 y0 hw0 (by omega)
    exact laws_FnExactMirrorForest.calls k _ _ l0 w (Kd.C_of_reads (d := (0 : Int)) (h1 := fun _ => rfl) hr0) hc0 rs rs2 b lm km m (by omega) h1 h2 h3 h4 h5 h6 h7 h8 h9 h10 h11

end Go.Proofs.Ytlogghfgfokijaa.PFnExactMirrorForest
