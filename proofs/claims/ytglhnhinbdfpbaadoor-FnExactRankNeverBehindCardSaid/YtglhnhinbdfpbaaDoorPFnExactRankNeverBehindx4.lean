/- The walk of the statement FnExactRankNeverBehind: each Go function that it reaches does what the Lean function of its name says; printed by a program of this session. -/
import Derived.Test.YtglhnhinbdfpbaaDoorPFnExactRankNeverBehindx0
import Derived.Test.YtglhnhinbdfpbaaDoorPFnExactRankNeverBehindx3
namespace Go.Proofs.YtglhnhinbdfpbaaDoor.PFnExactRankNeverBehind
open Go.RowKit Go.Proofs.YtglhnhinbdfpbaaDoorW.PrintWords Go.Proofs.YtglhnhinbdfpbaaDoorW.PrintLast Go.Proofs.YtglhnhinbdfpbaaDoorW.PrintMore
attribute [local go_sem] max2_int min2_int max_two min_two max_three min_three max_four min_four   -- for this text's walks alone
set_option linter.unusedVariables false
set_option linter.unusedSimpArgs false

/-! ### impl_RankNeverBehind: function 6 -/
/-- The text of a rank, n steps being left. -/
def tb (F : Int → Int → Int) : Nat → Int → Int → Int → List Int → List Int
  | 0, _, _, _, out => out
  | n + 1, u, d, r, out => if r < F u (d + 1) then tb F n u (d + 1) r (out ++ [68]) else tb F n (u + 1) d (r - F u (d + 1)) (out ++ [85])
theorem grown_trans {a b c : World} {m : Option Nat} (h : a.grownBy b m) (k : b.grownBy c m) : a.grownBy c m :=
  ⟨k.os.trans h.os, k.tape.trans h.tape, k.output.trans h.output, Nat.le_trans h.size k.size, fun i hi hm => (k.block i (Nat.lt_of_lt_of_le hi h.size) hm).trans (h.block i hi hm)⟩
theorem grown_drewN {a b : World} {m : Option Nat} (h : a.grownBy b m) (n : Nat) : a.grownBy (b.drewN n) m := ⟨h.os, h.tape, h.output, h.size, h.block⟩
theorem grown_below {a b c : World} {m : Option Nat} (h : a.grownBy b m) (k : Below a.heap.size b c) : a.grownBy c m :=
  ⟨k.os.trans h.os, k.tape.trans h.tape, k.output.trans h.output, Nat.le_trans h.size k.size, fun i hi hm => (k.block i hi).trans (h.block i hi hm)⟩
/-- What a closure over two whole numbers does: it hands back F u d; of the old blocks m alone turns; I is kept. -/
structure Clos (P : Program) (g : Nat) (lb : Array Value) (F : Int → Int → Int) (S : Nat) (m : Option Nat) (I : World → Prop) : Prop where
  eg : ∀ args w, (callFunc g args).run P w = .ok (.enter g args) w
  call : ∀ W u d, 0 ≤ u → u ≤ 41 → 0 ≤ d → d ≤ 41 → I W → Calls P g (#[.int .i64 u, .int .i64 d] ++ lb) W fun e W' => e = .returned (.int .i64 (F u d)) ∧ I W' ∧ W.grownBy W' m
  keep : ∀ W W', I W → Below S W W' → I W'
  turn : ∀ k, m = some k → k < S
  nn : ∀ u d, 0 ≤ F u d
  le : ∀ u d, F u d ≤ 1152921504606846976
theorem Clos.later {P : Program} {g : Nat} {lb : Array Value} {F : Int → Int → Int} {S S' : Nat} {m : Option Nat} {I : World → Prop} (h : Clos P g lb F S m I) (hS : S ≤ S') : Clos P g lb F S' m I :=
  ⟨h.eg, h.call, fun W W' hI hb => h.keep W W' hI (hb.mono hS), fun k hk => Nat.lt_of_lt_of_le (h.turn k hk) hS, h.nn, h.le⟩
theorem R_turn {α : Type} {d : Kd α} {e : Nat} {w w1 : World} {base : Nat} {ok : Nat → Prop} {v : Value} {xs : List α} {m : Option Nat} (h : d.R e w base ok v xs) (hg : w.grownBy w1 m) (hm : ∀ k, m = some k → k < base) : d.R e w1 base ok v xs :=
  Kd.R_mono (Kd.R_move (Kd.R_bound h) (fun k hk => hg.block k hk.2.2.1 (fun e => by have := hm k e.symm; omega))) (fun _ hk => hk.1)
theorem below_dn (B : Nat) (w : World) (n : Nat) : Below B w (w.drewN n) := ⟨rfl, rfl, rfl, Nat.le_refl _, fun _ _ => rfl⟩
theorem below_of_grown {B : Nat} {w w1 : World} {row : Option Nat} (hg : w.grownBy w1 row) (hB : B ≤ w.heap.size) (hr : ∀ k, row = some k → B ≤ k) : Below B w w1 := (Below.refl B w).grown hg hB hr
/-- A key [u, d]. -/
def kv (u d : Int) : Value := .agg #[.int .i64 u, .int .i64 d]
def ents : DataW Unit → List (Lit × DataW Unit)
  | .map es => es
  | _ => []
/-- Each entry of the map, at a key [u, d], is F u d. -/
def Good (P : Program) (K : Nat) (F : Int → Int → Int) (D : DataW Unit) : Prop :=
  ∀ p ∈ ents D, ∃ u d : Nat, u < 42 ∧ d < 42 ∧ keyOf P K (kv u d) = some p.1 ∧ p.2 = .lit (.int .i64 (F u d))
/-- Block m is such a map. -/
def Memo (P : Program) (K E m : Nat) (F : Int → Int → Int) (w : World) : Prop :=
  ∃ D : DataW Unit, w.ownsMap P K (plainElem P E) m (Maps.size D) D ∧ Good P K F D
theorem nodup_len {α : Type} [DecidableEq α] : ∀ (l B : List α), l.Pairwise (· ≠ ·) → (∀ x ∈ l, x ∈ B) → l.length ≤ B.length
  | [], _, _, _ => Nat.zero_le _
  | x :: l, B, hn, hs => by
    obtain ⟨h1, h2⟩ := List.pairwise_cons.1 hn
    have hx := hs x List.mem_cons_self
    have := nodup_len l (B.erase x) h2 (fun y hy => (List.mem_erase_of_ne (fun e => h1 y hy e.symm)).2 (hs y (List.mem_cons_of_mem _ hy)))
    rw [List.length_erase_of_mem hx] at this
    have hp := List.length_pos_of_mem hx
    simp only [List.length_cons]; omega
theorem ownsMap_tight {P : Program} {k b n : Nat} {R : Value → Option (DataW Unit × List MemPlace)} {w : World} {D : DataW Unit} (h : w.ownsMap P k R b n D) : w.ownsMap P k R b (Maps.size D) D := by
  obtain ⟨es, clock, hb, F, hs, rfl⟩ := h
  exact ⟨es, clock, hb, F, by simp [Maps.size, length_sorted], rfl⟩
theorem Good.size {P : Program} {K E m n : Nat} {F : Int → Int → Int} {w : World} {D : DataW Unit} (law : Maps.Keyed P K) (ho : w.ownsMap P K (plainElem P E) m n D) (h : Good P K F D) : Maps.size D ≤ 1764 := by
  obtain ⟨es, rfl, hp⟩ := ho.tidy law
  have hB : ∀ x ∈ es.map (fun p => some p.1), x ∈ (List.range 1764).map (fun i => keyOf P K (kv ((i / 42 : Nat) : Int) ((i % 42 : Nat) : Int))) := by
    intro x hx
    obtain ⟨p, hpm, rfl⟩ := List.mem_map.1 hx
    obtain ⟨u, d, hu, hd, hk, _⟩ := h p hpm
    refine List.mem_map.2 ⟨u * 42 + d, List.mem_range.2 (by omega), ?_⟩
    rw [show (u * 42 + d) / 42 = u from by omega, show (u * 42 + d) % 42 = d from by omega]
    exact hk
  letI : DecidableEq (Option Lit) := fun a b => Classical.propDecidable (a = b)
  have := nodup_len (es.map (fun p => some p.1)) _ ((List.pairwise_map).2 (hp.imp (fun hne e => hne (Option.some.inj e)))) hB
  simpa [Maps.size] using this
theorem Good.hit {P : Program} {K : Nat} {F : Int → Int → Int} {D : DataW Unit} (law : Maps.Keyed P K) (h : Good P K F D) {u d : Nat} {kl : Lit} (hk : keyOf P K (kv u d) = some kl) (hh : Maps.has D kl = true) {c : Int} (hat : D.atKey kl (.lit (.int .i64 0)) = .lit (.int .i64 c)) : c = F u d := by
  cases D <;> try (simp [Maps.has] at hh; done)
  rename_i es
  simp only [Maps.has, List.any_eq_true] at hh
  have hf : ∃ p, es.find? (fun p => p.1.sameKey kl) = some p := by
    obtain ⟨p, hp, hs⟩ := hh
    cases hfe : es.find? (fun p => p.1.sameKey kl) with
    | some q => exact ⟨q, rfl⟩
    | none => exact absurd hs (by simpa using List.find?_eq_none.1 hfe p hp)
  obtain ⟨p, hp⟩ := hf
  have hs := List.find?_some hp
  have hm := List.mem_of_find?_eq_some hp
  simp only [DataW.atKey, hp] at hat
  obtain ⟨u', d', _, _, hk', hv⟩ := h p hm
  have e : p.1 = kl := Go.WideAt.sameKey_eq hs
  rw [e] at hk'
  have := law.inj hk hk'
  simp only [kv, Value.agg.injEq, Array.mk.injEq, List.cons.injEq, Value.int.injEq, true_and, and_true] at this
  obtain ⟨h1, h2⟩ := this
  rw [hv] at hat
  injection hat with hat
  injection hat with _ hat
  rw [← hat, h1, h2]
theorem Good.put {P : Program} {K : Nat} {F : Int → Int → Int} {D : DataW Unit} (hD : Maps.IsMap D) (h : Good P K F D) {u d : Nat} (hu : u < 42) (hd : d < 42) {kl : Lit} (hk : keyOf P K (kv u d) = some kl) : Good P K F (D.put kl (.lit (.int .i64 (F u d)))) := by
  obtain ⟨es, rfl⟩ := hD
  intro p hp
  simp only [DataW.put, ents] at hp
  rcases Go.ChangeMaps.mem_insert_iff.1 hp with rfl | hp
  · exact ⟨u, d, hu, hd, hk, rfl⟩
  · exact h p (List.mem_filter.1 hp).1
theorem Memo.made (P : Program) (K E : Nat) (F : Int → Int → Int) (w : World) : Memo P K E w.heap.size F (w.alloc (.map #[] 0)) :=
  ⟨.map [], World.ownsMap_made _ _ _ _, fun p hp => by simp [ents] at hp⟩
theorem Memo.kept {P : Program} {K E m : Nat} {F : Int → Int → Int} {w w' : World} {row : Option Nat} (h : Memo P K E m F w) (hg : w.grownBy w' row) (hne : some m ≠ row) : Memo P K E m F w' := by
  obtain ⟨D, ho, hd⟩ := h
  exact ⟨D, ho.kept hg hne, hd⟩
theorem Memo.below {P : Program} {K E m S : Nat} {F : Int → Int → Int} {w w' : World} (h : Memo P K E m F w) (hb : Below S w w') (hm : m < S) : Memo P K E m F w' := by
  obtain ⟨D, ⟨es, clock, h1, r⟩, hd⟩ := h
  exact ⟨D, ⟨es, clock, (hb.block m hm).trans h1, r⟩, hd⟩
theorem Memo.put {P : Program} {K E m n : Nat} {F : Int → Int → Int} {w' : World} {D' : DataW Unit} (ho : w'.ownsMap P K (plainElem P E) m n D') (hg : Good P K F D') : Memo P K E m F w' := ⟨D', ownsMap_tight ho, hg⟩
theorem Memo.lt {P : Program} {K E m : Nat} {F : Int → Int → Int} {w : World} (h : Memo P K E m F w) : m < w.heap.size := by
  obtain ⟨D, ho, _⟩ := h
  exact ho.lt
theorem wideK : (match Tryd.prog.underlying 47 with | some (.array _ _) | some (.struct _) => true | _ => false) = true := by rw [Tryd.underlying47]
theorem laidK : laidOutB Tryd.prog = true := by kernel_rfl
theorem lawK : Maps.Keyed Tryd.prog 47 := Maps.Keyed.of_law (deep_law_laid laidK (m := 2) (by omega) (of_decide_eq_true (by kernel_rfl)) (by kernel_rfl) wideK)
theorem zeroE (w : World) : (zeroValue 3).run Tryd.prog w = .ok (.int .i64 0) w := by kernel_rfl
theorem keyK (u d : Nat) (hu : u < 42) (hd : d < 42) : ∃ kl, keyOf Tryd.prog 47 (kv u d) = some kl := by
  have h1 : (Lit.int .i64 (u : Int)).wf = true := WalkArith.wf_i64 (by omega)
  have h2 : (Lit.int .i64 (d : Int)).wf = true := WalkArith.wf_i64 (by omega)
  have h3 : Tryd.prog.keyType 47 = true := by kernel_rfl
  have h4 : Tryd.prog.cellsOf 47 = 2 := by kernel_rfl
  have h5 : Tryd.prog.cellsOf 3 = 1 := by kernel_rfl
  have h6 : ∃ n, Tryd.prog.types.size = n + 1 := by
    refine ⟨Tryd.prog.types.size - 1, ?_⟩
    have : 0 < Tryd.prog.types.size := of_decide_eq_true (by kernel_rfl)
    omega
  obtain ⟨n, h6⟩ := h6
  have hf : (kv (u : Int) (d : Int)).formed Tryd.prog 47 = true := by simp [kv, Value.formed, Tryd.underlying47, h4]
  unfold keyOf
  rw [Tryd.underlying47]
  simp only [h3, hf, Bool.and_self, if_true, h6]
  simp [Program.keyLits, Tryd.underlying47, Tryd.underlying3, h4, h5, kv, Value.cells, h1, h2, List.range_succ]
theorem cell_one_two (w : World) (x y : Value) (t : Nat) : (w.alloc (.cells #[x, y] t)).cell? ⟨w.heap.size, 0, none⟩ = some x ∧ (w.alloc (.cells #[x, y] t)).cell? ⟨w.heap.size, 1, none⟩ = some y := ⟨World.cell?_alloc_at _ _ _ _ rfl, World.cell?_alloc_at _ _ _ _ rfl⟩
theorem w41 (x : Nat) (h : x ≤ 41) : IntKind.i64.wrap ((x : Int) + 1) = (x : Int) + 1 := by rw [IntKind.wrap_i64]; omega
/-- The captured variables. -/
structure OnP where
  p0 : Nat
  p1 : Nat
  p2 : Nat
  p3 : Nat
  p4 : Nat
  p5 : Nat
  m : Nat
  v0 : Int
  v1 : Int
  v2 : Int
  v3 : Int
def OnP.lb (p : OnP) : Array Value := #[.pointer (some ⟨p.p0, 0, none⟩), .pointer (some ⟨p.p1, 0, none⟩), .pointer (some ⟨p.p2, 0, none⟩), .pointer (some ⟨p.p3, 0, none⟩), .pointer (some ⟨p.p4, 0, none⟩), .pointer (some ⟨p.p5, 0, none⟩)]
structure OnP.Ok (p : OnP) (S : Nat) : Prop where
  s0 : p.p0 < S
  s1 : p.p1 < S
  s2 : p.p2 < S
  s3 : p.p3 < S
  s4 : p.p4 < S
  s5 : p.p5 < S
  sm : p.m < S
  n0 : p.p0 ≠ p.m
  n1 : p.p1 ≠ p.m
  n2 : p.p2 ≠ p.m
  n3 : p.p3 ≠ p.m
  n4 : p.p4 ≠ p.m
  n5 : p.p5 ≠ p.m
/-- What the closure finds. -/
structure OnI (N : Nat) (p : OnP) (F : Int → Int → Int) (w : World) : Prop where
  c0 : w.cell? ⟨p.p0, 0, none⟩ = some (.int .i64 p.v0)
  c1 : w.cell? ⟨p.p1, 0, none⟩ = some (.int .i64 p.v1)
  c2 : w.cell? ⟨p.p2, 0, none⟩ = some (.int .i64 p.v2)
  c3 : w.cell? ⟨p.p3, 0, none⟩ = some (.int .i64 p.v3)
  c4 : w.cell? ⟨p.p4, 0, none⟩ = some (.map (some p.m))
  c5 : w.cell? ⟨p.p5, 0, none⟩ = some (.func (.func N) #[] p.lb)
  mm : Memo Tryd.prog 47 3 p.m F w
theorem OnI.kept {N S : Nat} {p : OnP} {F : Int → Int → Int} {w w' : World} (h : OnI N p F w) (hp : p.Ok S) (hg : w.grownBy w' (some p.m)) (hm : Memo Tryd.prog 47 3 p.m F w') : OnI N p F w' :=
  ⟨cell_grown hg h.c0 (fun e => hp.n0 (Option.some.inj e)), cell_grown hg h.c1 (fun e => hp.n1 (Option.some.inj e)), cell_grown hg h.c2 (fun e => hp.n2 (Option.some.inj e)), cell_grown hg h.c3 (fun e => hp.n3 (Option.some.inj e)), cell_grown hg h.c4 (fun e => hp.n4 (Option.some.inj e)), cell_grown hg h.c5 (fun e => hp.n5 (Option.some.inj e)), hm⟩
theorem OnI.below {N S : Nat} {p : OnP} {F : Int → Int → Int} {w w' : World} (h : OnI N p F w) (hp : p.Ok S) (hb : Below S w w') : OnI N p F w' :=
  ⟨(hb.cell hp.s0).trans h.c0, (hb.cell hp.s1).trans h.c1, (hb.cell hp.s2).trans h.c2, (hb.cell hp.s3).trans h.c3, (hb.cell hp.s4).trans h.c4, (hb.cell hp.s5).trans h.c5, h.mm.below hb hp.sm⟩
/-- What is asked of the count. -/
structure OnF (out : Int → Int → Prop) [∀ u d, Decidable (out u d)] (a b : Int) (F : Int → Int → Int) : Prop where
  nn : ∀ u d, 0 ≤ F u d
  le : ∀ u d, F u d ≤ 1152921504606846976
  eq : ∀ u d, 0 ≤ u → u ≤ 41 → 0 ≤ d → d ≤ 41 → F u d = if u > a ∨ d > b ∨ out u d then 0 else if u = a ∧ d = b then 1 else F (u + 1) d + F u (d + 1)
theorem eg32 : ∀ args w, (callFunc 32 args).run Tryd.prog w = .ok (.enter 32 args) w := enters_of Tryd.func32 (by kernel_rfl) rfl

set_option maxHeartbeats 8000000 in
set_option maxRecDepth 100000 in
theorem onward2.hit1a (p : OnP) (S : Nat) (HP : Aside0 (p.Ok S)) (F : Int → Int → Int) (hF : Aside0 (OnF (fun u d => u + d > 0 ∧ u - p.v2 * d < p.v3) p.v0 p.v1 F)) (n : Nat) (ih : Aside0 (∀ (u d : Nat) (w : World), u < 42 → d < 42 → 82 - u - d < n → OnI 32 p F w →
    Calls Tryd.prog 32 (#[.int .i64 u, .int .i64 d] ++ p.lb) w fun e w' => e = .returned (.int .i64 (F u d)) ∧ OnI 32 p F w' ∧ w.grownBy w' (some p.m))) (u d : Nat) (w : World) (hu : u < 41) (hd : d < 41) (hn : 82 - u - d < n + 1) (HI : Aside0 (OnI 32 p F w))
    (he : F u d = F (u + 1) d + F u (d + 1))
    (hm0 : 0 ≤ p.v2 * (d : Int)) (hm1 : p.v2 * (d : Int) ≤ 205)
    (h1b : decide ((u : Int) > p.v0) = false) (h1c : decide (p.v0 < (u : Int)) = false) (h2b : decide ((d : Int) > p.v1) = false) (h2c : decide (p.v1 < (d : Int)) = false) (e1b : ((u : Int) == p.v0) = true) (e2b : ((d : Int) == p.v1) = false) (h3b : decide ((u : Int) + d > 0) = true) (h3c : decide (0 < (u : Int) + d) = true) (h4b : decide ((u : Int) - p.v2 * d < p.v3) = false)
    (kl : Lit) (hkl : Aside0 (keyOf Tryd.prog 47 (kv u d) = some kl)) (D : DataW Unit) (hD : Aside0 (w.ownsMap Tryd.prog 47 (plainElem Tryd.prog 3) p.m (Maps.size D) D)) (hG : Aside0 (Good Tryd.prog 47 F D)) (hh : Maps.has D kl = true) :
    Calls Tryd.prog 32 #[.int .i64 u, .int .i64 d, .pointer (some ⟨p.p0, 0, none⟩), .pointer (some ⟨p.p1, 0, none⟩), .pointer (some ⟨p.p2, 0, none⟩), .pointer (some ⟨p.p3, 0, none⟩), .pointer (some ⟨p.p4, 0, none⟩), .pointer (some ⟨p.p5, 0, none⟩)] w fun e w' => e = .returned (.int .i64 (F u d)) ∧ OnI 32 p F w' ∧ w.grownBy w' (some p.m) := by
  have c0 := HI.out.c0; have c1 := HI.out.c1; have c2 := HI.out.c2; have c3 := HI.out.c3; have c4 := HI.out.c4; have c5 := HI.out.c5
  have c4' : (w.alloc (.cells #[.int .i64 (u : Int), .int .i64 (d : Int)] 47)).cell? ⟨p.p4, 0, none⟩ = some (.map (some p.m)) := (World.cell?_alloc_past _ _ _ (World.block_lt_of_cell? w _ c4)).trans c4
  have c5' : (w.alloc (.cells #[.int .i64 (u : Int), .int .i64 (d : Int)] 47)).cell? ⟨p.p5, 0, none⟩ = some (.func (.func 32) #[] p.lb) := (World.cell?_alloc_past _ _ _ (World.block_lt_of_cell? w _ c5)).trans c5
  clear c4 c5
  have eg := eg32
  have GA : Aside0 (w.grownBy (w.alloc (.cells #[.int .i64 (u : Int), .int .i64 (d : Int)] 47)) (some p.m)) := ⟨World.grownBy_alloc _ _ _⟩
  have IA : Aside0 (OnI 32 p F (w.alloc (.cells #[.int .i64 (u : Int), .int .i64 (d : Int)] 47))) := ⟨HI.out.kept HP.out GA.out (HI.out.mm.kept (World.grownBy_alloc _ _ none) (by simp))⟩
  clear he
  go_enter Tryd.func32, Tryd.ntmps32
  go_wp2_with (first | (at_lookup; refine wpList_lookup_own_ok_int _ rfl _ _ 46 rfl 47 3 .i64 lawK Tryd.underlying46 Tryd.underlying3 (zeroE _) p.m _ D rfl (hD.out.alloc _) _ _ rfl hkl.out ?_; intro c hat hwc))
  go_ret
  have hc := hG.out.hit lawK hkl.out hh hat
  exact ⟨by show Ending.returned (.int .i64 c) = _; rw [hc], IA.out, GA.out⟩

set_option maxHeartbeats 8000000 in
set_option maxRecDepth 100000 in
theorem onward2.miss1a (p : OnP) (S : Nat) (HP : Aside0 (p.Ok S)) (F : Int → Int → Int) (hF : Aside0 (OnF (fun u d => u + d > 0 ∧ u - p.v2 * d < p.v3) p.v0 p.v1 F)) (n : Nat) (ih : Aside0 (∀ (u d : Nat) (w : World), u < 42 → d < 42 → 82 - u - d < n → OnI 32 p F w →
    Calls Tryd.prog 32 (#[.int .i64 u, .int .i64 d] ++ p.lb) w fun e w' => e = .returned (.int .i64 (F u d)) ∧ OnI 32 p F w' ∧ w.grownBy w' (some p.m))) (u d : Nat) (w : World) (hu : u < 41) (hd : d < 41) (hn : 82 - u - d < n + 1) (HI : Aside0 (OnI 32 p F w))
    (he : F u d = F (u + 1) d + F u (d + 1))
    (hm0 : 0 ≤ p.v2 * (d : Int)) (hm1 : p.v2 * (d : Int) ≤ 205)
    (h1b : decide ((u : Int) > p.v0) = false) (h1c : decide (p.v0 < (u : Int)) = false) (h2b : decide ((d : Int) > p.v1) = false) (h2c : decide (p.v1 < (d : Int)) = false) (e1b : ((u : Int) == p.v0) = true) (e2b : ((d : Int) == p.v1) = false) (h3b : decide ((u : Int) + d > 0) = true) (h3c : decide (0 < (u : Int) + d) = true) (h4b : decide ((u : Int) - p.v2 * d < p.v3) = false)
    (kl : Lit) (hkl : Aside0 (keyOf Tryd.prog 47 (kv u d) = some kl)) (D : DataW Unit) (hD : Aside0 (w.ownsMap Tryd.prog 47 (plainElem Tryd.prog 3) p.m (Maps.size D) D)) (hG : Aside0 (Good Tryd.prog 47 F D)) (hh : Maps.has D kl = false) :
    Calls Tryd.prog 32 #[.int .i64 u, .int .i64 d, .pointer (some ⟨p.p0, 0, none⟩), .pointer (some ⟨p.p1, 0, none⟩), .pointer (some ⟨p.p2, 0, none⟩), .pointer (some ⟨p.p3, 0, none⟩), .pointer (some ⟨p.p4, 0, none⟩), .pointer (some ⟨p.p5, 0, none⟩)] w fun e w' => e = .returned (.int .i64 (F u d)) ∧ OnI 32 p F w' ∧ w.grownBy w' (some p.m) := by
  have c0 := HI.out.c0; have c1 := HI.out.c1; have c2 := HI.out.c2; have c3 := HI.out.c3; have c4 := HI.out.c4; have c5 := HI.out.c5
  have c4' : (w.alloc (.cells #[.int .i64 (u : Int), .int .i64 (d : Int)] 47)).cell? ⟨p.p4, 0, none⟩ = some (.map (some p.m)) := (World.cell?_alloc_past _ _ _ (World.block_lt_of_cell? w _ c4)).trans c4
  have c5' : (w.alloc (.cells #[.int .i64 (u : Int), .int .i64 (d : Int)] 47)).cell? ⟨p.p5, 0, none⟩ = some (.func (.func 32) #[] p.lb) := (World.cell?_alloc_past _ _ _ (World.block_lt_of_cell? w _ c5)).trans c5
  clear c4 c5
  have eg := eg32
  have GA : Aside0 (w.grownBy (w.alloc (.cells #[.int .i64 (u : Int), .int .i64 (d : Int)] 47)) (some p.m)) := ⟨World.grownBy_alloc _ _ _⟩
  have IA : Aside0 (OnI 32 p F (w.alloc (.cells #[.int .i64 (u : Int), .int .i64 (d : Int)] 47))) := ⟨HI.out.kept HP.out GA.out (HI.out.mm.kept (World.grownBy_alloc _ _ none) (by simp))⟩
  have IAd := Aside0.mk (IA.out.below HP.out ((Below.refl S (w.alloc (.cells #[.int .i64 (u : Int), .int .i64 (d : Int)] 47))).drew))
  have GAd : Aside0 ((w.alloc (.cells #[.int .i64 (u : Int), .int .i64 (d : Int)] 47)).grownBy (w.alloc (.cells #[.int .i64 (u : Int), .int .i64 (d : Int)] 47)).drew (some p.m)) := ⟨grown_drewN (World.grownBy.refl _ _) 1⟩
  have c5d : (w.alloc (.cells #[.int .i64 (u : Int), .int .i64 (d : Int)] 47)).drew.cell? ⟨p.p5, 0, none⟩ = some (.func (.func 32) #[] p.lb) := c5'
  have H1 : ∀ W, Aside0 (OnI 32 p F W) → Calls Tryd.prog 32 (#[.int .i64 (IntKind.i64.wrap ((u : Int) + 1)), .int .i64 (d : Int)] ++ p.lb) W fun e w' => e = .returned (.int .i64 (F ((u : Int) + 1) d)) ∧ Aside0 (OnI 32 p F w') ∧ Aside0 (W.grownBy w' (some p.m)) := fun W hW => by
    have := ih.out (u + 1) d W (by omega) (by omega) (by omega) hW.out
    rw [Int.natCast_add, Int.natCast_one] at this
    rw [w41 u (by omega)]
    exact this.mono (fun e w' h => ⟨h.1, ⟨h.2.1⟩, ⟨h.2.2⟩⟩)
  have H2 : ∀ W, Aside0 (OnI 32 p F W) → Calls Tryd.prog 32 (#[.int .i64 (u : Int), .int .i64 (IntKind.i64.wrap ((d : Int) + 1))] ++ p.lb) W fun e w' => e = .returned (.int .i64 (F (u : Int) ((d : Int) + 1))) ∧ Aside0 (OnI 32 p F w') ∧ Aside0 (W.grownBy w' (some p.m)) := fun W hW => by
    have := ih.out u (d + 1) W (by omega) (by omega) (by omega) hW.out
    rw [Int.natCast_add, Int.natCast_one] at this
    rw [w41 d (by omega)]
    exact this.mono (fun e w' h => ⟨h.1, ⟨h.2.1⟩, ⟨h.2.2⟩⟩)
  have HH1 := Aside0.mk H1
  have HH2 := Aside0.mk H2
  clear H1 H2
  have hs : wrap64 (F ((u : Int) + 1) d + F u ((d : Int) + 1)) = F u d := by
    have h1 := hF.out.nn u d
    have h2 := hF.out.le u d
    rw [← he]; unfold wrap64; omega
  have hv : plainElem (H := Unit) Tryd.prog 3 (.int .i64 (IntKind.i64.wrap (F ((u : Int) + 1) d + F u ((d : Int) + 1)))) = some (.lit (.int .i64 (F u d)), []) := by
    have h1 := hF.out.nn u d
    have h2 := hF.out.le u d
    rw [show IntKind.i64.wrap (F ((u : Int) + 1) d + F u ((d : Int) + 1)) = F u d from by rw [← he, IntKind.wrap_i64]; omega]
    exact plainElem_int Tryd.underlying3 (WalkArith.wf_i64 (by omega))
  have HV := Aside0.mk hv
  clear hv
  have k0 := cell_one_two w (.int .i64 (u : Int)) (.int .i64 (d : Int)) 47
  have HK0 := Aside0.mk k0
  have HS := Aside0.mk hs
  clear k0 hs he
  go_enter Tryd.func32, Tryd.ntmps32
  go_wp2_with (first | (at_lookup; refine wpList_lookup_own_ok_int _ rfl _ _ 46 rfl 47 3 .i64 lawK Tryd.underlying46 Tryd.underlying3 (zeroE _) p.m _ D rfl (hD.out.alloc _) _ _ rfl hkl.out ?_; intro c hat hwc))
  clear hat hwc c0 c1 c2 c3 c4'
  clear hm0 hm1 h1b h1c h2b h2c e1b e2b h3b h3c h4b
  go_region_held3 (fun w' => w'.cell? ⟨p.p5, 0, none⟩ = some (.func (.func 32) #[] p.lb) ∧ Aside0 (OnI 32 p F w') ∧ Aside0 ((w.alloc (.cells #[.int .i64 (u : Int), .int .i64 (d : Int)] 47)).grownBy w' (some p.m))) (first | with_reducible exact ⟨c5d, IAd, GAd⟩ | exact ⟨HJ2.out.c5, HJ2, HQ2⟩ | exact ⟨HJ.out.c5, HJ, HQ⟩) (first | (go_at_call 32; refine (HH1.out _ IAd).mono ?_; clear HH1; rintro e w1 ⟨rfl, HJ, HGJ⟩; have HQ := Aside0.mk (grown_trans GAd.out HGJ.out); clear IAd GAd) | (go_at_call 32; refine (HH2.out _ HJ).mono ?_; rintro e w2 ⟨rfl, HJ2, HGJ2⟩; have HQ2 := Aside0.mk (grown_trans HQ.out HGJ2.out); clear HJ HGJ HQ))
  have b4 := HJ2.out.c4
  have hne : some w.heap.size ≠ some p.m := fun e => by have := HI.out.mm.lt; have := Option.some.inj e; omega
  have b0 : w2.cell? ⟨w.heap.size, 0, none⟩ = some (.int .i64 (u : Int)) := cell_grown HQ2.out HK0.out.1 hne
  have b1 : w2.cell? ⟨w.heap.size, 1, none⟩ = some (.int .i64 (d : Int)) := cell_grown HQ2.out HK0.out.2 hne
  obtain ⟨D2, hD2', hG2'⟩ := HJ2.out.mm
  have hD2 := Aside0.mk hD2'
  have hG2 := Aside0.mk hG2'
  have hn2 : Maps.size D2 < maxLen := Nat.lt_of_le_of_lt (Good.size lawK hD2' hG2') (by unfold maxLen; omega)
  clear hD2' hG2' hne
  clear c5' c5d
  go_wp2_with (first | (at_mapUpdate; refine wpList_mapUpdate_own _ rfl _ _ _ 46 rfl 47 3 lawK Tryd.underlying46 _ p.m _ D2 rfl hD2.out hn2 _ _ kl rfl rfl hkl.out _ [] HV.out ?_; intro w3 hown3 hg3))
  go_ret
  have hgg := grown_trans (grown_trans GA.out HQ2.out) hg3
  exact ⟨by show Ending.returned (.int .i64 (wrap64 (F ((u : Int) + 1) d + F u ((d : Int) + 1)))) = _; rw [HS.out], HJ2.out.kept HP.out hg3 (Memo.put hown3 (hG2.out.put (hD2.out.isMap) (by omega) (by omega) hkl.out)), hgg⟩

set_option maxHeartbeats 8000000 in
set_option maxRecDepth 100000 in
theorem onward2.hit1b (p : OnP) (S : Nat) (HP : Aside0 (p.Ok S)) (F : Int → Int → Int) (hF : Aside0 (OnF (fun u d => u + d > 0 ∧ u - p.v2 * d < p.v3) p.v0 p.v1 F)) (n : Nat) (ih : Aside0 (∀ (u d : Nat) (w : World), u < 42 → d < 42 → 82 - u - d < n → OnI 32 p F w →
    Calls Tryd.prog 32 (#[.int .i64 u, .int .i64 d] ++ p.lb) w fun e w' => e = .returned (.int .i64 (F u d)) ∧ OnI 32 p F w' ∧ w.grownBy w' (some p.m))) (u d : Nat) (w : World) (hu : u < 41) (hd : d < 41) (hn : 82 - u - d < n + 1) (HI : Aside0 (OnI 32 p F w))
    (he : F u d = F (u + 1) d + F u (d + 1))
    (hm0 : 0 ≤ p.v2 * (d : Int)) (hm1 : p.v2 * (d : Int) ≤ 205)
    (h1b : decide ((u : Int) > p.v0) = false) (h1c : decide (p.v0 < (u : Int)) = false) (h2b : decide ((d : Int) > p.v1) = false) (h2c : decide (p.v1 < (d : Int)) = false) (e1b : ((u : Int) == p.v0) = false) (h3b : decide ((u : Int) + d > 0) = true) (h3c : decide (0 < (u : Int) + d) = true) (h4b : decide ((u : Int) - p.v2 * d < p.v3) = false)
    (kl : Lit) (hkl : Aside0 (keyOf Tryd.prog 47 (kv u d) = some kl)) (D : DataW Unit) (hD : Aside0 (w.ownsMap Tryd.prog 47 (plainElem Tryd.prog 3) p.m (Maps.size D) D)) (hG : Aside0 (Good Tryd.prog 47 F D)) (hh : Maps.has D kl = true) :
    Calls Tryd.prog 32 #[.int .i64 u, .int .i64 d, .pointer (some ⟨p.p0, 0, none⟩), .pointer (some ⟨p.p1, 0, none⟩), .pointer (some ⟨p.p2, 0, none⟩), .pointer (some ⟨p.p3, 0, none⟩), .pointer (some ⟨p.p4, 0, none⟩), .pointer (some ⟨p.p5, 0, none⟩)] w fun e w' => e = .returned (.int .i64 (F u d)) ∧ OnI 32 p F w' ∧ w.grownBy w' (some p.m) := by
  have c0 := HI.out.c0; have c1 := HI.out.c1; have c2 := HI.out.c2; have c3 := HI.out.c3; have c4 := HI.out.c4; have c5 := HI.out.c5
  have c4' : (w.alloc (.cells #[.int .i64 (u : Int), .int .i64 (d : Int)] 47)).cell? ⟨p.p4, 0, none⟩ = some (.map (some p.m)) := (World.cell?_alloc_past _ _ _ (World.block_lt_of_cell? w _ c4)).trans c4
  have c5' : (w.alloc (.cells #[.int .i64 (u : Int), .int .i64 (d : Int)] 47)).cell? ⟨p.p5, 0, none⟩ = some (.func (.func 32) #[] p.lb) := (World.cell?_alloc_past _ _ _ (World.block_lt_of_cell? w _ c5)).trans c5
  clear c4 c5
  have eg := eg32
  have GA : Aside0 (w.grownBy (w.alloc (.cells #[.int .i64 (u : Int), .int .i64 (d : Int)] 47)) (some p.m)) := ⟨World.grownBy_alloc _ _ _⟩
  have IA : Aside0 (OnI 32 p F (w.alloc (.cells #[.int .i64 (u : Int), .int .i64 (d : Int)] 47))) := ⟨HI.out.kept HP.out GA.out (HI.out.mm.kept (World.grownBy_alloc _ _ none) (by simp))⟩
  clear he
  go_enter Tryd.func32, Tryd.ntmps32
  go_wp2_with (first | (at_lookup; refine wpList_lookup_own_ok_int _ rfl _ _ 46 rfl 47 3 .i64 lawK Tryd.underlying46 Tryd.underlying3 (zeroE _) p.m _ D rfl (hD.out.alloc _) _ _ rfl hkl.out ?_; intro c hat hwc))
  go_ret
  have hc := hG.out.hit lawK hkl.out hh hat
  exact ⟨by show Ending.returned (.int .i64 c) = _; rw [hc], IA.out, GA.out⟩

set_option maxHeartbeats 8000000 in
set_option maxRecDepth 100000 in
theorem onward2.miss1b (p : OnP) (S : Nat) (HP : Aside0 (p.Ok S)) (F : Int → Int → Int) (hF : Aside0 (OnF (fun u d => u + d > 0 ∧ u - p.v2 * d < p.v3) p.v0 p.v1 F)) (n : Nat) (ih : Aside0 (∀ (u d : Nat) (w : World), u < 42 → d < 42 → 82 - u - d < n → OnI 32 p F w →
    Calls Tryd.prog 32 (#[.int .i64 u, .int .i64 d] ++ p.lb) w fun e w' => e = .returned (.int .i64 (F u d)) ∧ OnI 32 p F w' ∧ w.grownBy w' (some p.m))) (u d : Nat) (w : World) (hu : u < 41) (hd : d < 41) (hn : 82 - u - d < n + 1) (HI : Aside0 (OnI 32 p F w))
    (he : F u d = F (u + 1) d + F u (d + 1))
    (hm0 : 0 ≤ p.v2 * (d : Int)) (hm1 : p.v2 * (d : Int) ≤ 205)
    (h1b : decide ((u : Int) > p.v0) = false) (h1c : decide (p.v0 < (u : Int)) = false) (h2b : decide ((d : Int) > p.v1) = false) (h2c : decide (p.v1 < (d : Int)) = false) (e1b : ((u : Int) == p.v0) = false) (h3b : decide ((u : Int) + d > 0) = true) (h3c : decide (0 < (u : Int) + d) = true) (h4b : decide ((u : Int) - p.v2 * d < p.v3) = false)
    (kl : Lit) (hkl : Aside0 (keyOf Tryd.prog 47 (kv u d) = some kl)) (D : DataW Unit) (hD : Aside0 (w.ownsMap Tryd.prog 47 (plainElem Tryd.prog 3) p.m (Maps.size D) D)) (hG : Aside0 (Good Tryd.prog 47 F D)) (hh : Maps.has D kl = false) :
    Calls Tryd.prog 32 #[.int .i64 u, .int .i64 d, .pointer (some ⟨p.p0, 0, none⟩), .pointer (some ⟨p.p1, 0, none⟩), .pointer (some ⟨p.p2, 0, none⟩), .pointer (some ⟨p.p3, 0, none⟩), .pointer (some ⟨p.p4, 0, none⟩), .pointer (some ⟨p.p5, 0, none⟩)] w fun e w' => e = .returned (.int .i64 (F u d)) ∧ OnI 32 p F w' ∧ w.grownBy w' (some p.m) := by
  have c0 := HI.out.c0; have c1 := HI.out.c1; have c2 := HI.out.c2; have c3 := HI.out.c3; have c4 := HI.out.c4; have c5 := HI.out.c5
  have c4' : (w.alloc (.cells #[.int .i64 (u : Int), .int .i64 (d : Int)] 47)).cell? ⟨p.p4, 0, none⟩ = some (.map (some p.m)) := (World.cell?_alloc_past _ _ _ (World.block_lt_of_cell? w _ c4)).trans c4
  have c5' : (w.alloc (.cells #[.int .i64 (u : Int), .int .i64 (d : Int)] 47)).cell? ⟨p.p5, 0, none⟩ = some (.func (.func 32) #[] p.lb) := (World.cell?_alloc_past _ _ _ (World.block_lt_of_cell? w _ c5)).trans c5
  clear c4 c5
  have eg := eg32
  have GA : Aside0 (w.grownBy (w.alloc (.cells #[.int .i64 (u : Int), .int .i64 (d : Int)] 47)) (some p.m)) := ⟨World.grownBy_alloc _ _ _⟩
  have IA : Aside0 (OnI 32 p F (w.alloc (.cells #[.int .i64 (u : Int), .int .i64 (d : Int)] 47))) := ⟨HI.out.kept HP.out GA.out (HI.out.mm.kept (World.grownBy_alloc _ _ none) (by simp))⟩
  have IAd := Aside0.mk (IA.out.below HP.out ((Below.refl S (w.alloc (.cells #[.int .i64 (u : Int), .int .i64 (d : Int)] 47))).drew))
  have GAd : Aside0 ((w.alloc (.cells #[.int .i64 (u : Int), .int .i64 (d : Int)] 47)).grownBy (w.alloc (.cells #[.int .i64 (u : Int), .int .i64 (d : Int)] 47)).drew (some p.m)) := ⟨grown_drewN (World.grownBy.refl _ _) 1⟩
  have c5d : (w.alloc (.cells #[.int .i64 (u : Int), .int .i64 (d : Int)] 47)).drew.cell? ⟨p.p5, 0, none⟩ = some (.func (.func 32) #[] p.lb) := c5'
  have H1 : ∀ W, Aside0 (OnI 32 p F W) → Calls Tryd.prog 32 (#[.int .i64 (IntKind.i64.wrap ((u : Int) + 1)), .int .i64 (d : Int)] ++ p.lb) W fun e w' => e = .returned (.int .i64 (F ((u : Int) + 1) d)) ∧ Aside0 (OnI 32 p F w') ∧ Aside0 (W.grownBy w' (some p.m)) := fun W hW => by
    have := ih.out (u + 1) d W (by omega) (by omega) (by omega) hW.out
    rw [Int.natCast_add, Int.natCast_one] at this
    rw [w41 u (by omega)]
    exact this.mono (fun e w' h => ⟨h.1, ⟨h.2.1⟩, ⟨h.2.2⟩⟩)
  have H2 : ∀ W, Aside0 (OnI 32 p F W) → Calls Tryd.prog 32 (#[.int .i64 (u : Int), .int .i64 (IntKind.i64.wrap ((d : Int) + 1))] ++ p.lb) W fun e w' => e = .returned (.int .i64 (F (u : Int) ((d : Int) + 1))) ∧ Aside0 (OnI 32 p F w') ∧ Aside0 (W.grownBy w' (some p.m)) := fun W hW => by
    have := ih.out u (d + 1) W (by omega) (by omega) (by omega) hW.out
    rw [Int.natCast_add, Int.natCast_one] at this
    rw [w41 d (by omega)]
    exact this.mono (fun e w' h => ⟨h.1, ⟨h.2.1⟩, ⟨h.2.2⟩⟩)
  have HH1 := Aside0.mk H1
  have HH2 := Aside0.mk H2
  clear H1 H2
  have hs : wrap64 (F ((u : Int) + 1) d + F u ((d : Int) + 1)) = F u d := by
    have h1 := hF.out.nn u d
    have h2 := hF.out.le u d
    rw [← he]; unfold wrap64; omega
  have hv : plainElem (H := Unit) Tryd.prog 3 (.int .i64 (IntKind.i64.wrap (F ((u : Int) + 1) d + F u ((d : Int) + 1)))) = some (.lit (.int .i64 (F u d)), []) := by
    have h1 := hF.out.nn u d
    have h2 := hF.out.le u d
    rw [show IntKind.i64.wrap (F ((u : Int) + 1) d + F u ((d : Int) + 1)) = F u d from by rw [← he, IntKind.wrap_i64]; omega]
    exact plainElem_int Tryd.underlying3 (WalkArith.wf_i64 (by omega))
  have HV := Aside0.mk hv
  clear hv
  have k0 := cell_one_two w (.int .i64 (u : Int)) (.int .i64 (d : Int)) 47
  have HK0 := Aside0.mk k0
  have HS := Aside0.mk hs
  clear k0 hs he
  go_enter Tryd.func32, Tryd.ntmps32
  go_wp2_with (first | (at_lookup; refine wpList_lookup_own_ok_int _ rfl _ _ 46 rfl 47 3 .i64 lawK Tryd.underlying46 Tryd.underlying3 (zeroE _) p.m _ D rfl (hD.out.alloc _) _ _ rfl hkl.out ?_; intro c hat hwc))
  clear hat hwc c0 c1 c2 c3 c4'
  clear hm0 hm1 h1b h1c h2b h2c e1b h3b h3c h4b
  go_region_held3 (fun w' => w'.cell? ⟨p.p5, 0, none⟩ = some (.func (.func 32) #[] p.lb) ∧ Aside0 (OnI 32 p F w') ∧ Aside0 ((w.alloc (.cells #[.int .i64 (u : Int), .int .i64 (d : Int)] 47)).grownBy w' (some p.m))) (first | with_reducible exact ⟨c5d, IAd, GAd⟩ | exact ⟨HJ2.out.c5, HJ2, HQ2⟩ | exact ⟨HJ.out.c5, HJ, HQ⟩) (first | (go_at_call 32; refine (HH1.out _ IAd).mono ?_; clear HH1; rintro e w1 ⟨rfl, HJ, HGJ⟩; have HQ := Aside0.mk (grown_trans GAd.out HGJ.out); clear IAd GAd) | (go_at_call 32; refine (HH2.out _ HJ).mono ?_; rintro e w2 ⟨rfl, HJ2, HGJ2⟩; have HQ2 := Aside0.mk (grown_trans HQ.out HGJ2.out); clear HJ HGJ HQ))
  have b4 := HJ2.out.c4
  have hne : some w.heap.size ≠ some p.m := fun e => by have := HI.out.mm.lt; have := Option.some.inj e; omega
  have b0 : w2.cell? ⟨w.heap.size, 0, none⟩ = some (.int .i64 (u : Int)) := cell_grown HQ2.out HK0.out.1 hne
  have b1 : w2.cell? ⟨w.heap.size, 1, none⟩ = some (.int .i64 (d : Int)) := cell_grown HQ2.out HK0.out.2 hne
  obtain ⟨D2, hD2', hG2'⟩ := HJ2.out.mm
  have hD2 := Aside0.mk hD2'
  have hG2 := Aside0.mk hG2'
  have hn2 : Maps.size D2 < maxLen := Nat.lt_of_le_of_lt (Good.size lawK hD2' hG2') (by unfold maxLen; omega)
  clear hD2' hG2' hne
  clear c5' c5d
  go_wp2_with (first | (at_mapUpdate; refine wpList_mapUpdate_own _ rfl _ _ _ 46 rfl 47 3 lawK Tryd.underlying46 _ p.m _ D2 rfl hD2.out hn2 _ _ kl rfl rfl hkl.out _ [] HV.out ?_; intro w3 hown3 hg3))
  go_ret
  have hgg := grown_trans (grown_trans GA.out HQ2.out) hg3
  exact ⟨by show Ending.returned (.int .i64 (wrap64 (F ((u : Int) + 1) d + F u ((d : Int) + 1)))) = _; rw [HS.out], HJ2.out.kept HP.out hg3 (Memo.put hown3 (hG2.out.put (hD2.out.isMap) (by omega) (by omega) hkl.out)), hgg⟩

set_option maxHeartbeats 8000000 in
set_option maxRecDepth 100000 in
theorem onward2.hit2a (p : OnP) (S : Nat) (HP : Aside0 (p.Ok S)) (F : Int → Int → Int) (hF : Aside0 (OnF (fun u d => u + d > 0 ∧ u - p.v2 * d < p.v3) p.v0 p.v1 F)) (n : Nat) (ih : Aside0 (∀ (u d : Nat) (w : World), u < 42 → d < 42 → 82 - u - d < n → OnI 32 p F w →
    Calls Tryd.prog 32 (#[.int .i64 u, .int .i64 d] ++ p.lb) w fun e w' => e = .returned (.int .i64 (F u d)) ∧ OnI 32 p F w' ∧ w.grownBy w' (some p.m))) (u d : Nat) (w : World) (hu : u < 41) (hd : d < 41) (hn : 82 - u - d < n + 1) (HI : Aside0 (OnI 32 p F w))
    (he : F u d = F (u + 1) d + F u (d + 1))
    (hm0 : 0 ≤ p.v2 * (d : Int)) (hm1 : p.v2 * (d : Int) ≤ 205)
    (h1b : decide ((u : Int) > p.v0) = false) (h1c : decide (p.v0 < (u : Int)) = false) (h2b : decide ((d : Int) > p.v1) = false) (h2c : decide (p.v1 < (d : Int)) = false) (e1b : ((u : Int) == p.v0) = true) (e2b : ((d : Int) == p.v1) = false) (h3b : decide ((u : Int) + d > 0) = false) (h3c : decide (0 < (u : Int) + d) = false)
    (kl : Lit) (hkl : Aside0 (keyOf Tryd.prog 47 (kv u d) = some kl)) (D : DataW Unit) (hD : Aside0 (w.ownsMap Tryd.prog 47 (plainElem Tryd.prog 3) p.m (Maps.size D) D)) (hG : Aside0 (Good Tryd.prog 47 F D)) (hh : Maps.has D kl = true) :
    Calls Tryd.prog 32 #[.int .i64 u, .int .i64 d, .pointer (some ⟨p.p0, 0, none⟩), .pointer (some ⟨p.p1, 0, none⟩), .pointer (some ⟨p.p2, 0, none⟩), .pointer (some ⟨p.p3, 0, none⟩), .pointer (some ⟨p.p4, 0, none⟩), .pointer (some ⟨p.p5, 0, none⟩)] w fun e w' => e = .returned (.int .i64 (F u d)) ∧ OnI 32 p F w' ∧ w.grownBy w' (some p.m) := by
  have c0 := HI.out.c0; have c1 := HI.out.c1; have c2 := HI.out.c2; have c3 := HI.out.c3; have c4 := HI.out.c4; have c5 := HI.out.c5
  have c4' : (w.alloc (.cells #[.int .i64 (u : Int), .int .i64 (d : Int)] 47)).cell? ⟨p.p4, 0, none⟩ = some (.map (some p.m)) := (World.cell?_alloc_past _ _ _ (World.block_lt_of_cell? w _ c4)).trans c4
  have c5' : (w.alloc (.cells #[.int .i64 (u : Int), .int .i64 (d : Int)] 47)).cell? ⟨p.p5, 0, none⟩ = some (.func (.func 32) #[] p.lb) := (World.cell?_alloc_past _ _ _ (World.block_lt_of_cell? w _ c5)).trans c5
  clear c4 c5
  have eg := eg32
  have GA : Aside0 (w.grownBy (w.alloc (.cells #[.int .i64 (u : Int), .int .i64 (d : Int)] 47)) (some p.m)) := ⟨World.grownBy_alloc _ _ _⟩
  have IA : Aside0 (OnI 32 p F (w.alloc (.cells #[.int .i64 (u : Int), .int .i64 (d : Int)] 47))) := ⟨HI.out.kept HP.out GA.out (HI.out.mm.kept (World.grownBy_alloc _ _ none) (by simp))⟩
  clear he
  go_enter Tryd.func32, Tryd.ntmps32
  go_wp2_with (first | (at_lookup; refine wpList_lookup_own_ok_int _ rfl _ _ 46 rfl 47 3 .i64 lawK Tryd.underlying46 Tryd.underlying3 (zeroE _) p.m _ D rfl (hD.out.alloc _) _ _ rfl hkl.out ?_; intro c hat hwc))
  go_ret
  have hc := hG.out.hit lawK hkl.out hh hat
  exact ⟨by show Ending.returned (.int .i64 c) = _; rw [hc], IA.out, GA.out⟩

set_option maxHeartbeats 8000000 in
set_option maxRecDepth 100000 in
theorem onward2.miss2a (p : OnP) (S : Nat) (HP : Aside0 (p.Ok S)) (F : Int → Int → Int) (hF : Aside0 (OnF (fun u d => u + d > 0 ∧ u - p.v2 * d < p.v3) p.v0 p.v1 F)) (n : Nat) (ih : Aside0 (∀ (u d : Nat) (w : World), u < 42 → d < 42 → 82 - u - d < n → OnI 32 p F w →
    Calls Tryd.prog 32 (#[.int .i64 u, .int .i64 d] ++ p.lb) w fun e w' => e = .returned (.int .i64 (F u d)) ∧ OnI 32 p F w' ∧ w.grownBy w' (some p.m))) (u d : Nat) (w : World) (hu : u < 41) (hd : d < 41) (hn : 82 - u - d < n + 1) (HI : Aside0 (OnI 32 p F w))
    (he : F u d = F (u + 1) d + F u (d + 1))
    (hm0 : 0 ≤ p.v2 * (d : Int)) (hm1 : p.v2 * (d : Int) ≤ 205)
    (h1b : decide ((u : Int) > p.v0) = false) (h1c : decide (p.v0 < (u : Int)) = false) (h2b : decide ((d : Int) > p.v1) = false) (h2c : decide (p.v1 < (d : Int)) = false) (e1b : ((u : Int) == p.v0) = true) (e2b : ((d : Int) == p.v1) = false) (h3b : decide ((u : Int) + d > 0) = false) (h3c : decide (0 < (u : Int) + d) = false)
    (kl : Lit) (hkl : Aside0 (keyOf Tryd.prog 47 (kv u d) = some kl)) (D : DataW Unit) (hD : Aside0 (w.ownsMap Tryd.prog 47 (plainElem Tryd.prog 3) p.m (Maps.size D) D)) (hG : Aside0 (Good Tryd.prog 47 F D)) (hh : Maps.has D kl = false) :
    Calls Tryd.prog 32 #[.int .i64 u, .int .i64 d, .pointer (some ⟨p.p0, 0, none⟩), .pointer (some ⟨p.p1, 0, none⟩), .pointer (some ⟨p.p2, 0, none⟩), .pointer (some ⟨p.p3, 0, none⟩), .pointer (some ⟨p.p4, 0, none⟩), .pointer (some ⟨p.p5, 0, none⟩)] w fun e w' => e = .returned (.int .i64 (F u d)) ∧ OnI 32 p F w' ∧ w.grownBy w' (some p.m) := by
  have c0 := HI.out.c0; have c1 := HI.out.c1; have c2 := HI.out.c2; have c3 := HI.out.c3; have c4 := HI.out.c4; have c5 := HI.out.c5
  have c4' : (w.alloc (.cells #[.int .i64 (u : Int), .int .i64 (d : Int)] 47)).cell? ⟨p.p4, 0, none⟩ = some (.map (some p.m)) := (World.cell?_alloc_past _ _ _ (World.block_lt_of_cell? w _ c4)).trans c4
  have c5' : (w.alloc (.cells #[.int .i64 (u : Int), .int .i64 (d : Int)] 47)).cell? ⟨p.p5, 0, none⟩ = some (.func (.func 32) #[] p.lb) := (World.cell?_alloc_past _ _ _ (World.block_lt_of_cell? w _ c5)).trans c5
  clear c4 c5
  have eg := eg32
  have GA : Aside0 (w.grownBy (w.alloc (.cells #[.int .i64 (u : Int), .int .i64 (d : Int)] 47)) (some p.m)) := ⟨World.grownBy_alloc _ _ _⟩
  have IA : Aside0 (OnI 32 p F (w.alloc (.cells #[.int .i64 (u : Int), .int .i64 (d : Int)] 47))) := ⟨HI.out.kept HP.out GA.out (HI.out.mm.kept (World.grownBy_alloc _ _ none) (by simp))⟩
  have IAd := Aside0.mk (IA.out.below HP.out ((Below.refl S (w.alloc (.cells #[.int .i64 (u : Int), .int .i64 (d : Int)] 47))).drew))
  have GAd : Aside0 ((w.alloc (.cells #[.int .i64 (u : Int), .int .i64 (d : Int)] 47)).grownBy (w.alloc (.cells #[.int .i64 (u : Int), .int .i64 (d : Int)] 47)).drew (some p.m)) := ⟨grown_drewN (World.grownBy.refl _ _) 1⟩
  have c5d : (w.alloc (.cells #[.int .i64 (u : Int), .int .i64 (d : Int)] 47)).drew.cell? ⟨p.p5, 0, none⟩ = some (.func (.func 32) #[] p.lb) := c5'
  have H1 : ∀ W, Aside0 (OnI 32 p F W) → Calls Tryd.prog 32 (#[.int .i64 (IntKind.i64.wrap ((u : Int) + 1)), .int .i64 (d : Int)] ++ p.lb) W fun e w' => e = .returned (.int .i64 (F ((u : Int) + 1) d)) ∧ Aside0 (OnI 32 p F w') ∧ Aside0 (W.grownBy w' (some p.m)) := fun W hW => by
    have := ih.out (u + 1) d W (by omega) (by omega) (by omega) hW.out
    rw [Int.natCast_add, Int.natCast_one] at this
    rw [w41 u (by omega)]
    exact this.mono (fun e w' h => ⟨h.1, ⟨h.2.1⟩, ⟨h.2.2⟩⟩)
  have H2 : ∀ W, Aside0 (OnI 32 p F W) → Calls Tryd.prog 32 (#[.int .i64 (u : Int), .int .i64 (IntKind.i64.wrap ((d : Int) + 1))] ++ p.lb) W fun e w' => e = .returned (.int .i64 (F (u : Int) ((d : Int) + 1))) ∧ Aside0 (OnI 32 p F w') ∧ Aside0 (W.grownBy w' (some p.m)) := fun W hW => by
    have := ih.out u (d + 1) W (by omega) (by omega) (by omega) hW.out
    rw [Int.natCast_add, Int.natCast_one] at this
    rw [w41 d (by omega)]
    exact this.mono (fun e w' h => ⟨h.1, ⟨h.2.1⟩, ⟨h.2.2⟩⟩)
  have HH1 := Aside0.mk H1
  have HH2 := Aside0.mk H2
  clear H1 H2
  have hs : wrap64 (F ((u : Int) + 1) d + F u ((d : Int) + 1)) = F u d := by
    have h1 := hF.out.nn u d
    have h2 := hF.out.le u d
    rw [← he]; unfold wrap64; omega
  have hv : plainElem (H := Unit) Tryd.prog 3 (.int .i64 (IntKind.i64.wrap (F ((u : Int) + 1) d + F u ((d : Int) + 1)))) = some (.lit (.int .i64 (F u d)), []) := by
    have h1 := hF.out.nn u d
    have h2 := hF.out.le u d
    rw [show IntKind.i64.wrap (F ((u : Int) + 1) d + F u ((d : Int) + 1)) = F u d from by rw [← he, IntKind.wrap_i64]; omega]
    exact plainElem_int Tryd.underlying3 (WalkArith.wf_i64 (by omega))
  have HV := Aside0.mk hv
  clear hv
  have k0 := cell_one_two w (.int .i64 (u : Int)) (.int .i64 (d : Int)) 47
  have HK0 := Aside0.mk k0
  have HS := Aside0.mk hs
  clear k0 hs he
  go_enter Tryd.func32, Tryd.ntmps32
  go_wp2_with (first | (at_lookup; refine wpList_lookup_own_ok_int _ rfl _ _ 46 rfl 47 3 .i64 lawK Tryd.underlying46 Tryd.underlying3 (zeroE _) p.m _ D rfl (hD.out.alloc _) _ _ rfl hkl.out ?_; intro c hat hwc))
  clear hat hwc c0 c1 c2 c3 c4'
  clear hm0 hm1 h1b h1c h2b h2c e1b e2b h3b h3c
  go_region_held3 (fun w' => w'.cell? ⟨p.p5, 0, none⟩ = some (.func (.func 32) #[] p.lb) ∧ Aside0 (OnI 32 p F w') ∧ Aside0 ((w.alloc (.cells #[.int .i64 (u : Int), .int .i64 (d : Int)] 47)).grownBy w' (some p.m))) (first | with_reducible exact ⟨c5d, IAd, GAd⟩ | exact ⟨HJ2.out.c5, HJ2, HQ2⟩ | exact ⟨HJ.out.c5, HJ, HQ⟩) (first | (go_at_call 32; refine (HH1.out _ IAd).mono ?_; clear HH1; rintro e w1 ⟨rfl, HJ, HGJ⟩; have HQ := Aside0.mk (grown_trans GAd.out HGJ.out); clear IAd GAd) | (go_at_call 32; refine (HH2.out _ HJ).mono ?_; rintro e w2 ⟨rfl, HJ2, HGJ2⟩; have HQ2 := Aside0.mk (grown_trans HQ.out HGJ2.out); clear HJ HGJ HQ))
  have b4 := HJ2.out.c4
  have hne : some w.heap.size ≠ some p.m := fun e => by have := HI.out.mm.lt; have := Option.some.inj e; omega
  have b0 : w2.cell? ⟨w.heap.size, 0, none⟩ = some (.int .i64 (u : Int)) := cell_grown HQ2.out HK0.out.1 hne
  have b1 : w2.cell? ⟨w.heap.size, 1, none⟩ = some (.int .i64 (d : Int)) := cell_grown HQ2.out HK0.out.2 hne
  obtain ⟨D2, hD2', hG2'⟩ := HJ2.out.mm
  have hD2 := Aside0.mk hD2'
  have hG2 := Aside0.mk hG2'
  have hn2 : Maps.size D2 < maxLen := Nat.lt_of_le_of_lt (Good.size lawK hD2' hG2') (by unfold maxLen; omega)
  clear hD2' hG2' hne
  clear c5' c5d
  go_wp2_with (first | (at_mapUpdate; refine wpList_mapUpdate_own _ rfl _ _ _ 46 rfl 47 3 lawK Tryd.underlying46 _ p.m _ D2 rfl hD2.out hn2 _ _ kl rfl rfl hkl.out _ [] HV.out ?_; intro w3 hown3 hg3))
  go_ret
  have hgg := grown_trans (grown_trans GA.out HQ2.out) hg3
  exact ⟨by show Ending.returned (.int .i64 (wrap64 (F ((u : Int) + 1) d + F u ((d : Int) + 1)))) = _; rw [HS.out], HJ2.out.kept HP.out hg3 (Memo.put hown3 (hG2.out.put (hD2.out.isMap) (by omega) (by omega) hkl.out)), hgg⟩

set_option maxHeartbeats 8000000 in
set_option maxRecDepth 100000 in
theorem onward2.hit2b (p : OnP) (S : Nat) (HP : Aside0 (p.Ok S)) (F : Int → Int → Int) (hF : Aside0 (OnF (fun u d => u + d > 0 ∧ u - p.v2 * d < p.v3) p.v0 p.v1 F)) (n : Nat) (ih : Aside0 (∀ (u d : Nat) (w : World), u < 42 → d < 42 → 82 - u - d < n → OnI 32 p F w →
    Calls Tryd.prog 32 (#[.int .i64 u, .int .i64 d] ++ p.lb) w fun e w' => e = .returned (.int .i64 (F u d)) ∧ OnI 32 p F w' ∧ w.grownBy w' (some p.m))) (u d : Nat) (w : World) (hu : u < 41) (hd : d < 41) (hn : 82 - u - d < n + 1) (HI : Aside0 (OnI 32 p F w))
    (he : F u d = F (u + 1) d + F u (d + 1))
    (hm0 : 0 ≤ p.v2 * (d : Int)) (hm1 : p.v2 * (d : Int) ≤ 205)
    (h1b : decide ((u : Int) > p.v0) = false) (h1c : decide (p.v0 < (u : Int)) = false) (h2b : decide ((d : Int) > p.v1) = false) (h2c : decide (p.v1 < (d : Int)) = false) (e1b : ((u : Int) == p.v0) = false) (h3b : decide ((u : Int) + d > 0) = false) (h3c : decide (0 < (u : Int) + d) = false)
    (kl : Lit) (hkl : Aside0 (keyOf Tryd.prog 47 (kv u d) = some kl)) (D : DataW Unit) (hD : Aside0 (w.ownsMap Tryd.prog 47 (plainElem Tryd.prog 3) p.m (Maps.size D) D)) (hG : Aside0 (Good Tryd.prog 47 F D)) (hh : Maps.has D kl = true) :
    Calls Tryd.prog 32 #[.int .i64 u, .int .i64 d, .pointer (some ⟨p.p0, 0, none⟩), .pointer (some ⟨p.p1, 0, none⟩), .pointer (some ⟨p.p2, 0, none⟩), .pointer (some ⟨p.p3, 0, none⟩), .pointer (some ⟨p.p4, 0, none⟩), .pointer (some ⟨p.p5, 0, none⟩)] w fun e w' => e = .returned (.int .i64 (F u d)) ∧ OnI 32 p F w' ∧ w.grownBy w' (some p.m) := by
  have c0 := HI.out.c0; have c1 := HI.out.c1; have c2 := HI.out.c2; have c3 := HI.out.c3; have c4 := HI.out.c4; have c5 := HI.out.c5
  have c4' : (w.alloc (.cells #[.int .i64 (u : Int), .int .i64 (d : Int)] 47)).cell? ⟨p.p4, 0, none⟩ = some (.map (some p.m)) := (World.cell?_alloc_past _ _ _ (World.block_lt_of_cell? w _ c4)).trans c4
  have c5' : (w.alloc (.cells #[.int .i64 (u : Int), .int .i64 (d : Int)] 47)).cell? ⟨p.p5, 0, none⟩ = some (.func (.func 32) #[] p.lb) := (World.cell?_alloc_past _ _ _ (World.block_lt_of_cell? w _ c5)).trans c5
  clear c4 c5
  have eg := eg32
  have GA : Aside0 (w.grownBy (w.alloc (.cells #[.int .i64 (u : Int), .int .i64 (d : Int)] 47)) (some p.m)) := ⟨World.grownBy_alloc _ _ _⟩
  have IA : Aside0 (OnI 32 p F (w.alloc (.cells #[.int .i64 (u : Int), .int .i64 (d : Int)] 47))) := ⟨HI.out.kept HP.out GA.out (HI.out.mm.kept (World.grownBy_alloc _ _ none) (by simp))⟩
  clear he
  go_enter Tryd.func32, Tryd.ntmps32
  go_wp2_with (first | (at_lookup; refine wpList_lookup_own_ok_int _ rfl _ _ 46 rfl 47 3 .i64 lawK Tryd.underlying46 Tryd.underlying3 (zeroE _) p.m _ D rfl (hD.out.alloc _) _ _ rfl hkl.out ?_; intro c hat hwc))
  go_ret
  have hc := hG.out.hit lawK hkl.out hh hat
  exact ⟨by show Ending.returned (.int .i64 c) = _; rw [hc], IA.out, GA.out⟩

set_option maxHeartbeats 8000000 in
set_option maxRecDepth 100000 in
theorem onward2.miss2b (p : OnP) (S : Nat) (HP : Aside0 (p.Ok S)) (F : Int → Int → Int) (hF : Aside0 (OnF (fun u d => u + d > 0 ∧ u - p.v2 * d < p.v3) p.v0 p.v1 F)) (n : Nat) (ih : Aside0 (∀ (u d : Nat) (w : World), u < 42 → d < 42 → 82 - u - d < n → OnI 32 p F w →
    Calls Tryd.prog 32 (#[.int .i64 u, .int .i64 d] ++ p.lb) w fun e w' => e = .returned (.int .i64 (F u d)) ∧ OnI 32 p F w' ∧ w.grownBy w' (some p.m))) (u d : Nat) (w : World) (hu : u < 41) (hd : d < 41) (hn : 82 - u - d < n + 1) (HI : Aside0 (OnI 32 p F w))
    (he : F u d = F (u + 1) d + F u (d + 1))
    (hm0 : 0 ≤ p.v2 * (d : Int)) (hm1 : p.v2 * (d : Int) ≤ 205)
    (h1b : decide ((u : Int) > p.v0) = false) (h1c : decide (p.v0 < (u : Int)) = false) (h2b : decide ((d : Int) > p.v1) = false) (h2c : decide (p.v1 < (d : Int)) = false) (e1b : ((u : Int) == p.v0) = false) (h3b : decide ((u : Int) + d > 0) = false) (h3c : decide (0 < (u : Int) + d) = false)
    (kl : Lit) (hkl : Aside0 (keyOf Tryd.prog 47 (kv u d) = some kl)) (D : DataW Unit) (hD : Aside0 (w.ownsMap Tryd.prog 47 (plainElem Tryd.prog 3) p.m (Maps.size D) D)) (hG : Aside0 (Good Tryd.prog 47 F D)) (hh : Maps.has D kl = false) :
    Calls Tryd.prog 32 #[.int .i64 u, .int .i64 d, .pointer (some ⟨p.p0, 0, none⟩), .pointer (some ⟨p.p1, 0, none⟩), .pointer (some ⟨p.p2, 0, none⟩), .pointer (some ⟨p.p3, 0, none⟩), .pointer (some ⟨p.p4, 0, none⟩), .pointer (some ⟨p.p5, 0, none⟩)] w fun e w' => e = .returned (.int .i64 (F u d)) ∧ OnI 32 p F w' ∧ w.grownBy w' (some p.m) := by
  have c0 := HI.out.c0; have c1 := HI.out.c1; have c2 := HI.out.c2; have c3 := HI.out.c3; have c4 := HI.out.c4; have c5 := HI.out.c5
  have c4' : (w.alloc (.cells #[.int .i64 (u : Int), .int .i64 (d : Int)] 47)).cell? ⟨p.p4, 0, none⟩ = some (.map (some p.m)) := (World.cell?_alloc_past _ _ _ (World.block_lt_of_cell? w _ c4)).trans c4
  have c5' : (w.alloc (.cells #[.int .i64 (u : Int), .int .i64 (d : Int)] 47)).cell? ⟨p.p5, 0, none⟩ = some (.func (.func 32) #[] p.lb) := (World.cell?_alloc_past _ _ _ (World.block_lt_of_cell? w _ c5)).trans c5
  clear c4 c5
  have eg := eg32
  have GA : Aside0 (w.grownBy (w.alloc (.cells #[.int .i64 (u : Int), .int .i64 (d : Int)] 47)) (some p.m)) := ⟨World.grownBy_alloc _ _ _⟩
  have IA : Aside0 (OnI 32 p F (w.alloc (.cells #[.int .i64 (u : Int), .int .i64 (d : Int)] 47))) := ⟨HI.out.kept HP.out GA.out (HI.out.mm.kept (World.grownBy_alloc _ _ none) (by simp))⟩
  have IAd := Aside0.mk (IA.out.below HP.out ((Below.refl S (w.alloc (.cells #[.int .i64 (u : Int), .int .i64 (d : Int)] 47))).drew))
  have GAd : Aside0 ((w.alloc (.cells #[.int .i64 (u : Int), .int .i64 (d : Int)] 47)).grownBy (w.alloc (.cells #[.int .i64 (u : Int), .int .i64 (d : Int)] 47)).drew (some p.m)) := ⟨grown_drewN (World.grownBy.refl _ _) 1⟩
  have c5d : (w.alloc (.cells #[.int .i64 (u : Int), .int .i64 (d : Int)] 47)).drew.cell? ⟨p.p5, 0, none⟩ = some (.func (.func 32) #[] p.lb) := c5'
  have H1 : ∀ W, Aside0 (OnI 32 p F W) → Calls Tryd.prog 32 (#[.int .i64 (IntKind.i64.wrap ((u : Int) + 1)), .int .i64 (d : Int)] ++ p.lb) W fun e w' => e = .returned (.int .i64 (F ((u : Int) + 1) d)) ∧ Aside0 (OnI 32 p F w') ∧ Aside0 (W.grownBy w' (some p.m)) := fun W hW => by
    have := ih.out (u + 1) d W (by omega) (by omega) (by omega) hW.out
    rw [Int.natCast_add, Int.natCast_one] at this
    rw [w41 u (by omega)]
    exact this.mono (fun e w' h => ⟨h.1, ⟨h.2.1⟩, ⟨h.2.2⟩⟩)
  have H2 : ∀ W, Aside0 (OnI 32 p F W) → Calls Tryd.prog 32 (#[.int .i64 (u : Int), .int .i64 (IntKind.i64.wrap ((d : Int) + 1))] ++ p.lb) W fun e w' => e = .returned (.int .i64 (F (u : Int) ((d : Int) + 1))) ∧ Aside0 (OnI 32 p F w') ∧ Aside0 (W.grownBy w' (some p.m)) := fun W hW => by
    have := ih.out u (d + 1) W (by omega) (by omega) (by omega) hW.out
    rw [Int.natCast_add, Int.natCast_one] at this
    rw [w41 d (by omega)]
    exact this.mono (fun e w' h => ⟨h.1, ⟨h.2.1⟩, ⟨h.2.2⟩⟩)
  have HH1 := Aside0.mk H1
  have HH2 := Aside0.mk H2
  clear H1 H2
  have hs : wrap64 (F ((u : Int) + 1) d + F u ((d : Int) + 1)) = F u d := by
    have h1 := hF.out.nn u d
    have h2 := hF.out.le u d
    rw [← he]; unfold wrap64; omega
  have hv : plainElem (H := Unit) Tryd.prog 3 (.int .i64 (IntKind.i64.wrap (F ((u : Int) + 1) d + F u ((d : Int) + 1)))) = some (.lit (.int .i64 (F u d)), []) := by
    have h1 := hF.out.nn u d
    have h2 := hF.out.le u d
    rw [show IntKind.i64.wrap (F ((u : Int) + 1) d + F u ((d : Int) + 1)) = F u d from by rw [← he, IntKind.wrap_i64]; omega]
    exact plainElem_int Tryd.underlying3 (WalkArith.wf_i64 (by omega))
  have HV := Aside0.mk hv
  clear hv
  have k0 := cell_one_two w (.int .i64 (u : Int)) (.int .i64 (d : Int)) 47
  have HK0 := Aside0.mk k0
  have HS := Aside0.mk hs
  clear k0 hs he
  go_enter Tryd.func32, Tryd.ntmps32
  go_wp2_with (first | (at_lookup; refine wpList_lookup_own_ok_int _ rfl _ _ 46 rfl 47 3 .i64 lawK Tryd.underlying46 Tryd.underlying3 (zeroE _) p.m _ D rfl (hD.out.alloc _) _ _ rfl hkl.out ?_; intro c hat hwc))
  clear hat hwc c0 c1 c2 c3 c4'
  clear hm0 hm1 h1b h1c h2b h2c e1b h3b h3c
  go_region_held3 (fun w' => w'.cell? ⟨p.p5, 0, none⟩ = some (.func (.func 32) #[] p.lb) ∧ Aside0 (OnI 32 p F w') ∧ Aside0 ((w.alloc (.cells #[.int .i64 (u : Int), .int .i64 (d : Int)] 47)).grownBy w' (some p.m))) (first | with_reducible exact ⟨c5d, IAd, GAd⟩ | exact ⟨HJ2.out.c5, HJ2, HQ2⟩ | exact ⟨HJ.out.c5, HJ, HQ⟩) (first | (go_at_call 32; refine (HH1.out _ IAd).mono ?_; clear HH1; rintro e w1 ⟨rfl, HJ, HGJ⟩; have HQ := Aside0.mk (grown_trans GAd.out HGJ.out); clear IAd GAd) | (go_at_call 32; refine (HH2.out _ HJ).mono ?_; rintro e w2 ⟨rfl, HJ2, HGJ2⟩; have HQ2 := Aside0.mk (grown_trans HQ.out HGJ2.out); clear HJ HGJ HQ))
  have b4 := HJ2.out.c4
  have hne : some w.heap.size ≠ some p.m := fun e => by have := HI.out.mm.lt; have := Option.some.inj e; omega
  have b0 : w2.cell? ⟨w.heap.size, 0, none⟩ = some (.int .i64 (u : Int)) := cell_grown HQ2.out HK0.out.1 hne
  have b1 : w2.cell? ⟨w.heap.size, 1, none⟩ = some (.int .i64 (d : Int)) := cell_grown HQ2.out HK0.out.2 hne
  obtain ⟨D2, hD2', hG2'⟩ := HJ2.out.mm
  have hD2 := Aside0.mk hD2'
  have hG2 := Aside0.mk hG2'
  have hn2 : Maps.size D2 < maxLen := Nat.lt_of_le_of_lt (Good.size lawK hD2' hG2') (by unfold maxLen; omega)
  clear hD2' hG2' hne
  clear c5' c5d
  go_wp2_with (first | (at_mapUpdate; refine wpList_mapUpdate_own _ rfl _ _ _ 46 rfl 47 3 lawK Tryd.underlying46 _ p.m _ D2 rfl hD2.out hn2 _ _ kl rfl rfl hkl.out _ [] HV.out ?_; intro w3 hown3 hg3))
  go_ret
  have hgg := grown_trans (grown_trans GA.out HQ2.out) hg3
  exact ⟨by show Ending.returned (.int .i64 (wrap64 (F ((u : Int) + 1) d + F u ((d : Int) + 1)))) = _; rw [HS.out], HJ2.out.kept HP.out hg3 (Memo.put hown3 (hG2.out.put (hD2.out.isMap) (by omega) (by omega) hkl.out)), hgg⟩

set_option maxHeartbeats 8000000 in
set_option maxRecDepth 100000 in
theorem onward2.calls (p : OnP) (S : Nat) (hp : p.Ok S) (F : Int → Int → Int) (hF : OnF (fun u d => u + d > 0 ∧ u - p.v2 * d < p.v3) p.v0 p.v1 F) (ha : 0 ≤ p.v0 ∧ p.v0 ≤ 40) (hb : 0 ≤ p.v1 ∧ p.v1 ≤ 40) (hk : 0 ≤ p.v2 ∧ p.v2 ≤ 5) : ∀ (n : Nat) (u d : Nat) (w : World), u < 42 → d < 42 → 82 - u - d < n → OnI 32 p F w →
    Calls Tryd.prog 32 (#[.int .i64 u, .int .i64 d] ++ p.lb) w fun e w' => e = .returned (.int .i64 (F u d)) ∧ OnI 32 p F w' ∧ w.grownBy w' (some p.m) := by
  intro n
  induction n with
  | zero => intro u d w hu hd hn; omega
  | succ n ih =>
    intro u d w hu hd hn hI
    have he := hF.eq u d (by omega) (by omega) (by omega) (by omega)
    show Calls Tryd.prog 32 #[.int .i64 u, .int .i64 d, .pointer (some ⟨p.p0, 0, none⟩), .pointer (some ⟨p.p1, 0, none⟩), .pointer (some ⟨p.p2, 0, none⟩), .pointer (some ⟨p.p3, 0, none⟩), .pointer (some ⟨p.p4, 0, none⟩), .pointer (some ⟨p.p5, 0, none⟩)] w _
    have c0 := hI.c0; have c1 := hI.c1; have c2 := hI.c2; have c3 := hI.c3; have c4 := hI.c4; have c5 := hI.c5
    have HI := Aside0.mk hI
    have HP := Aside0.mk hp
    clear hI hp
    have hm0 : 0 ≤ p.v2 * (d : Int) := Int.mul_nonneg hk.1 (by omega)
    have hm1 : p.v2 * (d : Int) ≤ 5 * 41 := Int.mul_le_mul hk.2 (by omega) (by omega) (by omega)
    by_cases h1 : (u : Int) > p.v0
    · rw [if_pos (.inl h1)] at he
      have h1b : decide ((u : Int) > p.v0) = true := decide_eq_true h1
      have h1c : decide (p.v0 < (u : Int)) = true := decide_eq_true h1
      rw [he]
      go_enter Tryd.func32, Tryd.ntmps32
      go_wp2_with fail
      go_ret
      exact ⟨rfl, HI.out, World.grownBy.refl _ _⟩
    · have h1b : decide ((u : Int) > p.v0) = false := decide_eq_false h1
      have h1c : decide (p.v0 < (u : Int)) = false := decide_eq_false h1
      by_cases h2 : (d : Int) > p.v1
      · rw [if_pos (.inr (.inl h2))] at he
        have h2b : decide ((d : Int) > p.v1) = true := decide_eq_true h2
        have h2c : decide (p.v1 < (d : Int)) = true := decide_eq_true h2
        rw [he]
        go_enter Tryd.func32, Tryd.ntmps32
        go_wp2_with fail
        go_ret
        exact ⟨rfl, HI.out, World.grownBy.refl _ _⟩
      · have h2b : decide ((d : Int) > p.v1) = false := decide_eq_false h2
        have h2c : decide (p.v1 < (d : Int)) = false := decide_eq_false h2
        by_cases h3 : (u : Int) + d > 0
        · have h3b : decide ((u : Int) + d > 0) = true := decide_eq_true h3
          have h3c : decide (0 < (u : Int) + d) = true := decide_eq_true h3
          by_cases h4 : (u : Int) - p.v2 * d < p.v3
          · have h4b : decide ((u : Int) - p.v2 * d < p.v3) = true := decide_eq_true h4
            rw [if_pos (.inr (.inr ⟨h3, h4⟩))] at he
            rw [he]
            go_enter Tryd.func32, Tryd.ntmps32
            go_wp2_with fail
            go_ret
            exact ⟨rfl, HI.out, World.grownBy.refl _ _⟩
          · have h4b : decide ((u : Int) - p.v2 * d < p.v3) = false := decide_eq_false h4
            rw [if_neg (by rintro (h | h | h) <;> first | exact h1 h | exact h2 h | exact h4 h.2)] at he
            have hlu : (u : Int) ≤ p.v0 := by omega
            have hld : (d : Int) ≤ p.v1 := by omega
            obtain ⟨kl, hkl'⟩ := keyK u d hu hd
            obtain ⟨D, hD', hG'⟩ := HI.out.mm
            by_cases e0 : (u : Int) = p.v0 ∧ (d : Int) = p.v1
            · rw [if_pos e0] at he
              have e1b : ((u : Int) == p.v0) = true := by simpa using e0.1
              have e2b : ((d : Int) == p.v1) = true := by simpa using e0.2
              rw [he]
              clear he e0 hD' hG' hkl' hlu hld h1 h2 h3 h4
              go_enter Tryd.func32, Tryd.ntmps32
              go_wp2_with (first | fail)
              go_ret
              exact ⟨rfl, HI.out, World.grownBy.refl _ _⟩
            · rw [if_neg e0] at he
              by_cases e1 : (u : Int) = p.v0
              · have e1b : ((u : Int) == p.v0) = true := by simpa using e1
                have e2b : ((d : Int) == p.v1) = false := by simpa using (fun e => e0 ⟨e1, e⟩)
                cases hh : Maps.has D kl with
                | true => exact onward2.hit1a p S HP F ⟨hF⟩ n ⟨ih⟩ u d w (by omega) (by omega) hn HI he hm0 hm1 h1b h1c h2b h2c e1b e2b h3b h3c h4b kl ⟨hkl'⟩ D ⟨hD'⟩ ⟨hG'⟩ hh
                | false => exact onward2.miss1a p S HP F ⟨hF⟩ n ⟨ih⟩ u d w (by omega) (by omega) hn HI he hm0 hm1 h1b h1c h2b h2c e1b e2b h3b h3c h4b kl ⟨hkl'⟩ D ⟨hD'⟩ ⟨hG'⟩ hh
              · have e1b : ((u : Int) == p.v0) = false := by simpa using e1
                cases hh : Maps.has D kl with
                | true => exact onward2.hit1b p S HP F ⟨hF⟩ n ⟨ih⟩ u d w (by omega) (by omega) hn HI he hm0 hm1 h1b h1c h2b h2c e1b h3b h3c h4b kl ⟨hkl'⟩ D ⟨hD'⟩ ⟨hG'⟩ hh
                | false => exact onward2.miss1b p S HP F ⟨hF⟩ n ⟨ih⟩ u d w (by omega) (by omega) hn HI he hm0 hm1 h1b h1c h2b h2c e1b h3b h3c h4b kl ⟨hkl'⟩ D ⟨hD'⟩ ⟨hG'⟩ hh
        · have h3b : decide ((u : Int) + d > 0) = false := decide_eq_false h3
          have h3c : decide (0 < (u : Int) + d) = false := decide_eq_false h3
          rw [if_neg (by rintro (h | h | h) <;> first | exact h1 h | exact h2 h | exact h3 h.1)] at he
          have hlu : (u : Int) ≤ p.v0 := by omega
          have hld : (d : Int) ≤ p.v1 := by omega
          obtain ⟨kl, hkl'⟩ := keyK u d hu hd
          obtain ⟨D, hD', hG'⟩ := HI.out.mm
          by_cases e0 : (u : Int) = p.v0 ∧ (d : Int) = p.v1
          · rw [if_pos e0] at he
            have e1b : ((u : Int) == p.v0) = true := by simpa using e0.1
            have e2b : ((d : Int) == p.v1) = true := by simpa using e0.2
            rw [he]
            clear he e0 hD' hG' hkl' hlu hld h1 h2 h3
            go_enter Tryd.func32, Tryd.ntmps32
            go_wp2_with (first | fail)
            go_ret
            exact ⟨rfl, HI.out, World.grownBy.refl _ _⟩
          · rw [if_neg e0] at he
            by_cases e1 : (u : Int) = p.v0
            · have e1b : ((u : Int) == p.v0) = true := by simpa using e1
              have e2b : ((d : Int) == p.v1) = false := by simpa using (fun e => e0 ⟨e1, e⟩)
              cases hh : Maps.has D kl with
              | true => exact onward2.hit2a p S HP F ⟨hF⟩ n ⟨ih⟩ u d w (by omega) (by omega) hn HI he hm0 hm1 h1b h1c h2b h2c e1b e2b h3b h3c kl ⟨hkl'⟩ D ⟨hD'⟩ ⟨hG'⟩ hh
              | false => exact onward2.miss2a p S HP F ⟨hF⟩ n ⟨ih⟩ u d w (by omega) (by omega) hn HI he hm0 hm1 h1b h1c h2b h2c e1b e2b h3b h3c kl ⟨hkl'⟩ D ⟨hD'⟩ ⟨hG'⟩ hh
            · have e1b : ((u : Int) == p.v0) = false := by simpa using e1
              cases hh : Maps.has D kl with
              | true => exact onward2.hit2b p S HP F ⟨hF⟩ n ⟨ih⟩ u d w (by omega) (by omega) hn HI he hm0 hm1 h1b h1c h2b h2c e1b h3b h3c kl ⟨hkl'⟩ D ⟨hD'⟩ ⟨hG'⟩ hh
              | false => exact onward2.miss2b p S HP F ⟨hF⟩ n ⟨ih⟩ u d w (by omega) (by omega) hn HI he hm0 hm1 h1b h1c h2b h2c e1b h3b h3c kl ⟨hkl'⟩ D ⟨hD'⟩ ⟨hG'⟩ hh

set_option maxHeartbeats 8000000 in
set_option maxRecDepth 100000 in
theorem onward.calls (a b c d : Int) (w : World) :
    Calls Tryd.prog 20 #[.int .i64 a, .int .i64 b, .int .i64 c, .int .i64 d] w fun e w' => ∃ p : OnP, e = .returned (.func (.func 32) #[] p.lb) ∧ p.v0 = a ∧ p.v1 = b ∧ p.v2 = c ∧ p.v3 = d ∧ p.Ok w'.heap.size ∧ w.heap.size ≤ p.m ∧ Below w.heap.size w w' ∧ ∀ F, OnI 32 p F w' := by
  have hmm := @run_makeMap Tryd.prog
  have hmf : ∀ (fn : Fn) (first cap : Array Value) (w : World), (Instr.makeFunc fn first cap).run Tryd.prog w = .ok (.func fn first cap) w := fun _ _ _ _ => rfl
  go_enter Tryd.func20, Tryd.ntmps20
  go_wp2_with fail
  go_ret
  have e4 : ((((w.alloc (.cells #[.int .i64 a] 3)).alloc (.cells #[.int .i64 b] 3)).alloc (.cells #[.int .i64 c] 3)).alloc (.cells #[.int .i64 d] 3)).heap.size = w.heap.size + 1 + 1 + 1 + 1 := by simp
  refine ⟨⟨w.heap.size, w.heap.size + 1, w.heap.size + 1 + 1, w.heap.size + 1 + 1 + 1, w.heap.size + 1 + 1 + 1 + 1 + 1, w.heap.size + 1 + 1 + 1 + 1 + 1 + 1, w.heap.size + 1 + 1 + 1 + 1, a, b, c, d⟩, rfl, rfl, rfl, rfl, rfl, ?_, ?_, ?_, fun F => ?_⟩
  · constructor <;> simp <;> omega
  · show w.heap.size ≤ w.heap.size + 1 + 1 + 1 + 1
    omega
  · repeat (first | exact Below.refl _ _ | apply below_alloc)
  · constructor
    case mm =>
      have h := Memo.made Tryd.prog 47 3 F ((((w.alloc (.cells #[.int .i64 a] 3)).alloc (.cells #[.int .i64 b] 3)).alloc (.cells #[.int .i64 c] 3)).alloc (.cells #[.int .i64 d] 3))
      rw [e4] at h
      exact (h.kept (World.grownBy_alloc _ _ none) (by simp)).kept (World.grownBy_alloc _ _ none) (by simp)
    all_goals repeat (first | exact World.cell?_alloc_at _ _ _ _ (by simp; done) | refine (World.cell?_alloc_past _ _ _ (by simp <;> omega)).trans ?_)
theorem onward.clos (p : OnP) (S : Nat) (hp : p.Ok S) (F : Int → Int → Int) (hF : OnF (fun u d => u + d > 0 ∧ u - p.v2 * d < p.v3) p.v0 p.v1 F) (ha : 0 ≤ p.v0 ∧ p.v0 ≤ 40) (hb : 0 ≤ p.v1 ∧ p.v1 ≤ 40) (hk : 0 ≤ p.v2 ∧ p.v2 ≤ 5) : Clos Tryd.prog 32 p.lb F S (some p.m) (OnI 32 p F) where
  eg := eg32
  call := fun W u d h1 h2 h3 h4 hI => by
    obtain ⟨u', rfl⟩ := Int.eq_ofNat_of_zero_le h1
    obtain ⟨d', rfl⟩ := Int.eq_ofNat_of_zero_le h3
    exact onward2.calls p S hp F hF ha hb hk 83 u' d' W (by omega) (by omega) (by omega) hI
  keep := fun W W' hI hb => hI.below hp hb
  turn := fun k hk => by cases hk; exact hp.sm
  nn := hF.nn
  le := hF.le
/-- In how many ways it goes on to (a, b), no step being out. -/
def wayG (out : Int → Int → Prop) [∀ u d, Decidable (out u d)] (a b : Int) : Nat → Int → Int → Int
  | 0, _, _ => 0
  | n + 1, u, d => if u > a ∨ d > b ∨ out u d then 0 else if u = a ∧ d = b then 1 else wayG out a b n (u + 1) d + wayG out a b n u (d + 1)
def wayF (out : Int → Int → Prop) [∀ u d, Decidable (out u d)] (a b u d : Int) : Int := if a + b ≤ 40 ∧ 0 ≤ u ∧ 0 ≤ d then wayG out a b (a + b + 1 - u - d).toNat u d else 0
theorem wayF_in (out : Int → Int → Prop) [∀ u d, Decidable (out u d)] {a b u d : Int} (h : a + b ≤ 40 ∧ 0 ≤ u ∧ 0 ≤ d) : wayF out a b u d = wayG out a b (a + b + 1 - u - d).toNat u d := if_pos h
theorem wayG_nn (out : Int → Int → Prop) [∀ u d, Decidable (out u d)] (a b : Int) : ∀ (n : Nat) (u d : Int), 0 ≤ wayG out a b n u d
  | 0, _, _ => Int.le_refl _
  | n + 1, u, d => by
    unfold wayG
    have h1 := wayG_nn out a b n (u + 1) d
    have h2 := wayG_nn out a b n u (d + 1)
    split
    · exact Int.le_refl _
    · split <;> omega
theorem pow_mono2 : ∀ (m n : Nat), m ≤ n → (2 : Int) ^ m ≤ 2 ^ n := by
  intro m n h
  have := Nat.pow_le_pow_right (show 0 < 2 by decide) h
  exact_mod_cast this
theorem wayG_le (out : Int → Int → Prop) [∀ u d, Decidable (out u d)] (a b : Int) : ∀ (n : Nat) (u d : Int), wayG out a b n u d ≤ 2 ^ n
  | 0, _, _ => by simp [wayG]
  | n + 1, u, d => by
    unfold wayG
    have h1 := wayG_le out a b n (u + 1) d
    have h2 := wayG_le out a b n u (d + 1)
    have h3 : (1 : Int) ≤ 2 ^ n := by have := pow_mono2 0 n (Nat.zero_le _); simpa using this
    rw [Int.pow_succ]
    split
    · omega
    · split <;> omega
theorem wayF_on (out : Int → Int → Prop) [∀ u d, Decidable (out u d)] (a b : Int) (ha : 0 ≤ a) (hb : 0 ≤ b) (hab : a + b ≤ 40) : OnF out a b (wayF out a b) where
  nn := fun u d => by
    unfold wayF
    split
    · exact wayG_nn _ _ _ _ _ _
    · exact Int.le_refl _
  le := fun u d => by
    unfold wayF
    split
    · exact Int.le_trans (wayG_le out a b _ u d) (Int.le_trans (pow_mono2 _ 41 (by omega)) (by decide))
    · decide
  eq := fun u d h1 h2 h3 h4 => by
    by_cases ho : u > a ∨ d > b ∨ out u d
    · rw [if_pos ho]
      rw [wayF_in out ⟨hab, h1, h3⟩]
      cases h : (a + b + 1 - u - d).toNat with
      | zero => rfl
      | succ n => unfold wayG; rw [if_pos ho]
    · rw [if_neg ho]
      rw [wayF_in out (u := u) (d := d) ⟨hab, h1, h3⟩, wayF_in out (u := u + 1) (d := d) ⟨hab, by omega, h3⟩, wayF_in out (u := u) (d := d + 1) ⟨hab, h1, by omega⟩]
      have hu : ¬ u > a := fun h => ho (.inl h)
      have hd : ¬ d > b := fun h => ho (.inr (.inl h))
      obtain ⟨n, hn⟩ : ∃ n, (a + b + 1 - u - d).toNat = n + 1 := ⟨(a + b + 1 - u - d).toNat - 1, by omega⟩
      rw [hn, show (a + b + 1 - (u + 1) - d).toNat = n from by omega, show (a + b + 1 - u - (d + 1)).toNat = n from by omega]
      rw [wayG, if_neg ho]
/-- How many ways lead on with leads no less than a least one. -/
def Onf (a b k l u d : Int) : Int := wayF (fun u d => u + d > 0 ∧ u - k * d < l) a b u d
theorem onward.clos2 (p : OnP) (S : Nat) (hok : p.Ok S) (a b k l : Int) (hP : p.v0 = a ∧ p.v1 = b ∧ p.v2 = k ∧ p.v3 = l) (hs : 0 ≤ a ∧ a ≤ 40 ∧ 0 ≤ b ∧ b ≤ 40 ∧ a + b ≤ 40) (hk : 0 ≤ k ∧ k ≤ 5) : Clos Tryd.prog 32 p.lb (Onf a b k l) S (some p.m) (OnI 32 p (Onf a b k l)) := by
  obtain ⟨rfl, rfl, rfl, rfl⟩ := hP
  exact onward.clos p S hok _ (wayF_on (fun u d => u + d > 0 ∧ u - p.v2 * d < p.v3) p.v0 p.v1 hs.1 hs.2.2.1 hs.2.2.2.2) (by omega) (by omega) hk
/-- The rank of a text, n bytes being left. -/
def rkB (F : Int → Int → Int) (s : ByteArray) : Nat → Int → Int → Int → Int → Int
  | 0, _, _, _, r => r
  | n + 1, i, u, d, r => if bt s i = 85 then rkB F s n (i + 1) (u + 1) d (wrap64 (r + F u (d + 1))) else rkB F s n (i + 1) u (d + 1) r
def RB (F : Int → Int → Int) (s : ByteArray) : Int := rkB F s s.size 0 0 0 0
set_option maxHeartbeats 8000000 in
set_option maxRecDepth 100000 in
theorem rankBy.calls (g : Nat) (lb : Array Value) (F : Int → Int → Int) (m : Option Nat) (I : World → Prop) (s : ByteArray) (w : World) (hC : Clos Tryd.prog g lb F w.heap.size m I) (hI : I w) (h40 : s.size ≤ 40) :
    Calls Tryd.prog 19 #[.string s, .func (.func g) #[] lb] w fun e w' => e = .returned (.int .i64 (RB F s)) ∧ I w' ∧ w.grownBy w' m := by
  have eg := hC.eg
  have HC := Aside0.mk hC
  have HI0 := Aside0.mk hI
  have HG0 := Aside0.mk (World.grownBy.refl w m)
  clear hC hI
  go_enter Tryd.func19, Tryd.ntmps19
  go_wp2_with fail
  go_loopg [5, 6, 7, 11] s.size (fun kq v5 v6 v7 v11 wr => ∃ (r u d i : Int), v5 = .int .i64 r ∧ v6 = .int .i64 u ∧ v7 = .int .i64 d ∧ v11 = .int .i64 i ∧ Aside0 (u + d = i ∧ 0 ≤ u ∧ 0 ≤ d ∧ i ≤ (s.size : Int)) ∧ Aside0 (kq = ((s.size : Int) - i).toNat) ∧ Aside0 (rkB F s ((s.size : Int) - i).toNat i u d r = RB F s) ∧ Aside0 (I wr) ∧ Aside0 (w.grownBy wr m))
  case atStart => exact ⟨0, 0, 0, 0, rfl, rfl, rfl, rfl, ⟨by omega⟩, ⟨by simp⟩, ⟨by simp [RB]⟩, HI0, HG0⟩
  case round =>
    clear HI0 HG0
    obtain ⟨r, u, d, i, rfl, rfl, rfl, rfl, HX, HK, HE, HI, HG⟩ := hrel
    have hx := HX.out
    by_cases hlt : i < (s.size : Int)
    · have c0 := HC.out.call wr u (d + 1) (by omega) (by omega) (by omega) (by omega) HI.out
      obtain ⟨n, hn⟩ : ∃ n, ((s.size : Int) - i).toNat = n + 1 := ⟨((s.size : Int) - i).toNat - 1, by omega⟩
      have HE' := HE.out
      rw [hn] at HE'
      simp only [rkB] at HE'
      have NE := Aside0.mk hn
      have NE' := Aside0.mk (show ((s.size : Int) - (i + 1)).toNat = n by omega)
      clear hn
      have hltb : decide (i < (s.size : Int)) = true := decide_eq_true hlt
      have p5 : 0 ≤ i := by omega
      have hx5 := bt_at s i
      by_cases hc : bt s i = 85
      · rw [if_pos hc] at HE'
        have HE2 := Aside0.mk HE'
        clear HE'
        have hcb : ((bt s i) == 85) = true := beq_iff_eq.mpr hc
        clear hc
        go_wp2_with (first | (go_at_fn g; refine c0.mono ?_; clear c0; rintro e w1 ⟨rfl, hI1, hg1⟩; have HI1 := Aside0.mk hI1; have HG1 := Aside0.mk (grown_trans HG.out hg1); clear hI1 hg1))
        go_roundg n
        case measure => have := HK.out; have := NE.out; omega
        case rel => exact ⟨wrap64 (r + F u (d + 1)), u + 1, d, i + 1, rfl, rfl, rfl, rfl, ⟨by have := HX.out; omega⟩, ⟨by have := NE'.out; omega⟩, ⟨by rw [NE'.out]; exact HE2.out⟩, HI1, HG1⟩
      · rw [if_neg hc] at HE'
        have HE2 := Aside0.mk HE'
        clear HE'
        have hcb : ((bt s i) == 85) = false := beq_eq_false_iff_ne.mpr hc
        clear c0
        go_wp2_with fail
        go_roundg n
        case measure => have := HK.out; have := NE.out; omega
        case rel => exact ⟨r, u, d + 1, i + 1, rfl, rfl, rfl, rfl, ⟨by have := HX.out; omega⟩, ⟨by have := NE'.out; omega⟩, ⟨by rw [NE'.out]; exact HE2.out⟩, HI, HG⟩
    · have hltb : decide (i < (s.size : Int)) = false := decide_eq_false hlt
      have hz : ((s.size : Int) - i).toNat = 0 := by omega
      have HE' := HE.out
      rw [hz] at HE'
      simp only [rkB] at HE'
      have HE2 := Aside0.mk HE'
      clear HE' hz
      go_wp2_with fail
      go_ret
      exact ⟨by show Ending.returned (.int .i64 r) = _; rw [HE2.out], HI.out, HG.out⟩
def impl_RankNeverBehind.f (k : Nat) (a0 : ByteArray) (a1 : Int) : Option (Int × Bool) := (impl_isVote.f a0 a1).bind fun t => if t = true then ((impl_neverBehind.f k a0 a1).bind fun t2 => if t2 = true then ((impl_counts.f a0).bind fun p => if 0 ≤ p.1 ∧ p.1 ≤ 40 ∧ 0 ≤ p.2 ∧ p.2 ≤ 40 ∧ p.1 + p.2 ≤ 40 ∧ 0 ≤ a1 ∧ a1 ≤ 5 ∧ a0.size ≤ 40 then some (RB (Onf p.1 p.2 a1 0) a0, true) else none) else some (0, false)) else some (0, false)
theorem impl_RankNeverBehind.mono : ∀ a0 a1 k, LeO (impl_RankNeverBehind.f k a0 a1) (impl_RankNeverBehind.f (k + 1) a0 a1) := by
  intro a0 a1 k
  unfold impl_RankNeverBehind.f
  refine LeO.bind (LeO.refl _) (fun t => ?_)
  refine LeO.ite ?_ (LeO.refl _)
  exact LeO.bind (impl_neverBehind.mono _ _ _) (fun q => LeO.refl _)
set_option maxHeartbeats 8000000 in
set_option maxRecDepth 100000 in
theorem impl_RankNeverBehind.calls (k : Nat) (a0 : ByteArray) (a1 : Int) (r1 : Int) (r2 : Bool) (w : World) (h : impl_RankNeverBehind.f k a0 a1 = some (r1, r2)) :
    Calls Tryd.prog 6 #[.string a0, .int .i64 a1] w fun e w' => e = .returned (.tuple #[.int .i64 r1, .bool r2]) ∧ Below w.heap.size w w' := by
  unfold impl_RankNeverBehind.f at h
  replace h := Option.bind_eq_some_iff.mp h
  obtain ⟨t, At0, h⟩ := h
  have At := Aside0.mk At0
  clear At0
  cases t with
  | false =>
    simp only [Bool.false_eq_true, if_false, Option.some.injEq, Prod.mk.injEq] at h
    obtain ⟨rfl, rfl⟩ := h
    go_enter Tryd.func6, Tryd.ntmps6
    go_wp2_with (first | (go_at_call 16; refine (impl_isVote.calls a0 a1 false _ At.out).mono ?_; rintro e w1 ⟨rfl, hb1⟩; have HB1 := Aside0.mk hb1; clear hb1))
    go_ret2
    exact ⟨rfl, HB1.out⟩
  | true =>
    simp only [if_true] at h
    replace h := Option.bind_eq_some_iff.mp h
    obtain ⟨t2, An0, h⟩ := h
    have An := Aside0.mk An0
    clear An0
    cases t2 with
    | false =>
      simp only [Bool.false_eq_true, if_false, Option.some.injEq, Prod.mk.injEq] at h
      obtain ⟨rfl, rfl⟩ := h
      go_enter Tryd.func6, Tryd.ntmps6
      go_wp2_with (first | (go_at_call 16; refine (impl_isVote.calls a0 a1 true _ At.out).mono ?_; rintro e w1 ⟨rfl, hb1⟩; have HB1 := Aside0.mk hb1; clear hb1) | (go_at_call 17; refine (impl_neverBehind.calls k a0 a1 false _ An.out).mono ?_; rintro e w2 ⟨rfl, hb2⟩; have HB2 := Aside0.mk (below_step HB1.out hb2); clear hb2))
      go_ret2
      exact ⟨rfl, HB2.out⟩
    | true =>
      simp only [if_true] at h
      replace h := Option.bind_eq_some_iff.mp h
      obtain ⟨p, Ac0, h⟩ := h
      obtain ⟨p1, p2⟩ := p
      have Ac := Aside0.mk Ac0
      clear Ac0
      by_cases hc : 0 ≤ p1 ∧ p1 ≤ 40 ∧ 0 ≤ p2 ∧ p2 ≤ 40 ∧ p1 + p2 ≤ 40 ∧ 0 ≤ a1 ∧ a1 ≤ 5 ∧ a0.size ≤ 40
      · rw [if_pos hc] at h
        simp only [Option.some.injEq, Prod.mk.injEq] at h
        obtain ⟨hr1, rfl⟩ := h
        have HR1 := Aside0.mk hr1
        have HC0 := Aside0.mk hc
        clear hr1 hc
        go_enter Tryd.func6, Tryd.ntmps6
        go_wp2_with (first | (go_at_call 16; refine (impl_isVote.calls a0 a1 true _ At.out).mono ?_; rintro e w1 ⟨rfl, hb1⟩; have HB1 := Aside0.mk hb1; clear hb1) | (go_at_call 17; refine (impl_neverBehind.calls k a0 a1 true _ An.out).mono ?_; rintro e w2 ⟨rfl, hb2⟩; have HB2 := Aside0.mk (below_step HB1.out hb2); clear hb2) | (go_at_call 18; refine (impl_counts.calls a0 p1 p2 _ Ac.out).mono ?_; rintro e w' ⟨rfl, ⟨nd, rfl⟩⟩) | (go_at_call 20; refine (onward.calls p1 p2 a1 0 _).mono ?_; rintro e w3 ⟨p, rfl, h0, h1, h2, h3, hok, hm, hb, hI⟩; have HB3 := Aside0.mk (show Below w.heap.size w w3 from below_step HB2.out ((below_dn _ _ _).trans hb)); have HM := Aside0.mk (show w.heap.size ≤ p.m from Nat.le_trans HB2.out.size hm); have HC := Aside0.mk (onward.clos2 p _ hok p1 p2 a1 0 ⟨h0, h1, h2, h3⟩ (by have := HC0.out; omega) (by have := HC0.out; omega)); have HI := Aside0.mk (hI (Onf p1 p2 a1 0)); clear h0 h1 h2 h3 hok hm hb hI) | (go_at_call 19; refine (rankBy.calls _ _ _ _ _ a0 _ HC.out HI.out HC0.out.2.2.2.2.2.2.2).mono ?_; rintro e w4 ⟨rfl, hI4, hg4⟩; have HG4 := Aside0.mk hg4; clear hI4 hg4))
        go_ret2
        exact ⟨by rw [← HR1.out]; rfl, HB3.out.grown HG4.out HB3.out.size (fun k hk => by cases hk; exact HM.out)⟩
      · rw [if_neg hc] at h
        cases h

end Go.Proofs.YtglhnhinbdfpbaaDoor.PFnExactRankNeverBehind
