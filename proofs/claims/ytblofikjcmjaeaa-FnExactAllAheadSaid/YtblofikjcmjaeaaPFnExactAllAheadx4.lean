/- The walk of the statement FnExactAllAhead: each Go function that it reaches does what the Lean function of its name says; printed by a program of this session. -/
import Derived.Test.YtblofikjcmjaeaaPFnExactAllAheadx0
import Derived.Test.YtblofikjcmjaeaaPFnExactAllAheadx2
import Derived.Test.YtblofikjcmjaeaaPFnExactAllAheadx3
namespace Go.Proofs.Ytblofikjcmjaeaa.PFnExactAllAhead
open Go.RowKit Go.Proofs.YtblofikjcmjaeaaW.PrintWords Go.Proofs.YtblofikjcmjaeaaW.PrintLast Go.Proofs.YtblofikjcmjaeaaW.PrintMore
attribute [local go_sem] max2_int min2_int max_two min_two max_three min_three max_four min_four   -- for this text's walks alone
set_option linter.unusedVariables false
set_option linter.unusedSimpArgs false

/-! ### impl_AllAhead: function 34 -/
/-- The text of a rank, n steps being left. -/
def tb (F : Int → Int → Int) : Nat → Int → Int → Int → List Int → List Int
  | 0, _, _, _, out => out
  | n + 1, u, d, r, out => if r < F u (d + 1) then tb F n u (d + 1) r (out ++ [68]) else tb F n (u + 1) d (r - F u (d + 1)) (out ++ [85])
theorem grown_trans {a b c : World} {m : Option Nat} (h : a.grownBy b m) (k : b.grownBy c m) : a.grownBy c m :=
  ⟨k.os.trans h.os, k.tape.trans h.tape, k.output.trans h.output, Nat.le_trans h.size k.size, fun i hi hm => (k.block i (Nat.lt_of_lt_of_le hi h.size) hm).trans (h.block i hi hm)⟩
theorem grown_drewN {a b : World} {m : Option Nat} (h : a.grownBy b m) (n : Nat) : a.grownBy (b.drewN n) m := ⟨h.os, h.tape, h.output, h.size, h.block⟩
theorem grown_below {a b c : World} {m : Option Nat} (h : a.grownBy b m) (k : Below a.heap.size b c) : a.grownBy c m :=
  ⟨k.os.trans h.os, k.tape.trans h.tape, k.output.trans h.output, Nat.le_trans h.size k.size, fun i hi hm => (k.block i hi).trans (h.block i hi hm)⟩
/-- What a closure over two whole numbers does: it hands back F u d; of the old blocks m alone turns; I is kept. -/
structure Clos (P : Program) (g : Nat) (lb : Array Value) (F : Int → Int → Int) (S : Nat) (m : Option Nat) (I : World → Prop) : Prop where
  eg : ∀ args w, (callFunc g args).run P w = .ok (.enter g args) w
  call : ∀ W u d, 0 ≤ u → u ≤ 41 → 0 ≤ d → d ≤ 41 → I W → Calls P g (#[.int .i64 u, .int .i64 d] ++ lb) W fun e W' => e = .returned (.int .i64 (F u d)) ∧ I W' ∧ W.grownBy W' m
  keep : ∀ W W', I W → Below S W W' → I W'
  turn : ∀ k, m = some k → k < S
  nn : ∀ u d, 0 ≤ F u d
  le : ∀ u d, F u d ≤ 1152921504606846976
theorem Clos.later {P : Program} {g : Nat} {lb : Array Value} {F : Int → Int → Int} {S S' : Nat} {m : Option Nat} {I : World → Prop} (h : Clos P g lb F S m I) (hS : S ≤ S') : Clos P g lb F S' m I :=
  ⟨h.eg, h.call, fun W W' hI hb => h.keep W W' hI (hb.mono hS), fun k hk => Nat.lt_of_lt_of_le (h.turn k hk) hS, h.nn, h.le⟩
theorem R_turn {α : Type} {d : Kd α} {e : Nat} {w w1 : World} {base : Nat} {ok : Nat → Prop} {v : Value} {xs : List α} {m : Option Nat} (h : d.R e w base ok v xs) (hg : w.grownBy w1 m) (hm : ∀ k, m = some k → k < base) : d.R e w1 base ok v xs :=
  Kd.R_mono (Kd.R_move (Kd.R_bound h) (fun k hk => hg.block k hk.2.2.1 (fun e => by have := hm k e.symm; omega))) (fun _ hk => hk.1)
theorem below_of_grown {B : Nat} {w w1 : World} {row : Option Nat} (hg : w.grownBy w1 row) (hB : B ≤ w.heap.size) (hr : ∀ k, row = some k → B ≤ k) : Below B w w1 := (Below.refl B w).grown hg hB hr
set_option maxHeartbeats 8000000 in
set_option maxRecDepth 100000 in
theorem textBy.calls (g : Nat) (lb : Array Value) (F : Int → Int → Int) (m : Option Nat) (I : World → Prop) (s rk : Int) (w : World) (hC : Clos Try.prog g lb F w.heap.size m I) (hI : I w) (h0 : 0 ≤ s) (h40 : s ≤ 40) :
    Calls Try.prog 53 #[.int .i64 s, .int .i64 rk, .func (.func g) #[] lb] w fun e w' => e = .returned (if 0 ≤ rk ∧ rk < F 0 0 then .tuple #[.string (strOfNums (tb F s.toNat 0 0 rk [])), .bool true] else .tuple #[.string ⟨#[]⟩, .bool false]) ∧ I w' ∧ w.grownBy w' m := by
  have eg := hC.eg
  have n0 := hC.nn 0 0
  have n1 := hC.le 0 0
  have c0 := hC.call w 0 0 (by omega) (by omega) (by omega) (by omega) hI
  have A5 : impl_in.f rk 0 (F 0 0 - 1) = some (decide (0 ≤ rk ∧ rk < F 0 0)) := by
    unfold impl_in.f
    by_cases h : 0 ≤ rk
    · rw [if_pos h]; simp only [h, true_and]; congr 2; exact propext (by omega)
    · rw [if_neg h]; simp [h]
  have hw1 : wrap64 (F 0 0 - 1) = F 0 0 - 1 := by unfold wrap64; omega
  by_cases hc : 0 ≤ rk ∧ rk < F 0 0
  · rw [if_pos hc]
    rw [decide_eq_true hc] at A5
    have A5 := Aside0.mk A5
    have HC := Aside0.mk hC
    have HT := Aside0.mk hc.2
    have HT0 := Aside0.mk hc.1
    clear hC hc hI
    go_enter Try.func53, Try.ntmps53
    go_wp2_with (first | (go_at_fn g; refine c0.mono ?_; clear c0; rintro e w1 ⟨rfl, hI1, hg1⟩; have HI1 := Aside0.mk hI1; have HG1 := Aside0.mk hg1; clear hI1 hg1) | ((with_reducible refine gate_callee (f := 60) rfl ?_); refine goesL_ (some 16) rfl rfl Try.func60 (by kernel_rfl) rfl #[.int .i64 rk, .int .i64 0, .int .i64 (F 0 0 - 1)] rfl (by (try simp only [List.map_toArray, List.map_cons, List.map_nil]); first | done | rfl) ?_; (with_reducible refine (impl_in.calls rk 0 (F 0 0 - 1) true _ A5.out).mono ?_); rintro e w' ⟨rfl, ⟨nd, rfl⟩⟩; refine ⟨_, rfl, ?_⟩) | ((with_reducible refine gate_dst (N := 18) rfl ?_); refine Kd.R_lit (Kd.int .u8) _ 5 ?hg (N := 18) ?hd (xs := ([] : List Int)) (inner := []) (ok := fun _ => True) (okp := fun _ => True) ?hr ?hp (fun _ hk => hk) trivial (Below.refl _ _) (Nat.le_refl _) (by simp) ?_; (case hd => rfl); (case hg => rfl); (case hr => first | (go_simp; done) | (go_simp; rfl)); (case hp => exact (Reps.none _ _)); intro v122 w7 ho8 hb hg_ hnew_; clear hg_ hnew_; have HO123 := Aside0.mk (Kd.R_lower ho8 (show w.heap.size ≤ _ from HG1.out.size)); have HG2 := Aside0.mk (grown_below (grown_drewN HG1.out nd) (hb.mono HG1.out.size)); have HI2 := Aside0.mk (HC.out.keep _ _ HI1.out ((below_dn _ _ nd).trans (hb.mono HG1.out.size))); clear hb ho8))
    go_loopg [1, 8, 9, 10, 20] s.toNat (fun kq v1 v8 v9 v10 v20 wr => ∃ (r u d i : Int) (xs : List Int), v1 = .int .i64 r ∧ v9 = .int .i64 u ∧ v10 = .int .i64 d ∧ v20 = .int .i64 i ∧ Aside0 (u + d = i ∧ 0 ≤ u ∧ 0 ≤ d ∧ i ≤ s ∧ 0 ≤ r ∧ r ≤ 1152921504606846976 ∧ (xs.length : Int) = i) ∧ Aside0 (kq = (s - i).toNat) ∧ Aside0 (tb F (s - i).toNat u d r xs = tb F s.toNat 0 0 rk []) ∧ Aside0 (Kd.R (Kd.int .u8) 5 wr w.heap.size (fun _ => True) v8 xs) ∧ Aside0 (I wr) ∧ Aside0 (w.grownBy wr m))
    case atStart => exact ⟨rk, 0, 0, 0, [], rfl, rfl, rfl, rfl, ⟨by have := HT.out; have := HT0.out; simp; omega⟩, ⟨by simp⟩, ⟨by simp⟩, HO123, HI2, HG2⟩
    case round =>
      clear HO123 HI2 HG2 HI1 HG1
      obtain ⟨r, u, d, i, xs, rfl, rfl, rfl, rfl, HX, HK, HE, HR, HI, HG⟩ := hrel
      have hx := HX.out
      have q1 : wrap64 (d + 1) = d + 1 := by unfold wrap64; omega
      have q2 : wrap64 (u + 1) = u + 1 := by unfold wrap64; omega
      have q3 : wrap64 (i + 1) = i + 1 := by unfold wrap64; omega
      by_cases hlt : i < s
      · have c0 := HC.out.call wr u (d + 1) (by omega) (by omega) (by omega) (by omega) HI.out
        have f0 := HC.out.nn u (d + 1)
        obtain ⟨n, hn⟩ : ∃ n, (s - i).toNat = n + 1 := ⟨(s - i).toNat - 1, by omega⟩
        have hn' : (s - (i + 1)).toNat = n := by omega
        have HE' := HE.out
        rw [hn] at HE'
        simp only [tb] at HE'
        have NE := Aside0.mk hn
        have NE' := Aside0.mk hn'
        clear hn hn'
        have hltb : decide (i < s) = true := decide_eq_true hlt
        by_cases hc : r < F u (d + 1)
        · rw [if_pos hc] at HE'
          have HE2 := Aside0.mk HE'
          clear HE'
          have hcb : decide (r < F u (d + 1)) = true := decide_eq_true hc
          go_wp2_with (first | (go_at_fn g; refine c0.mono ?_; clear c0; rintro e w1 ⟨rfl, hI1, hg1⟩; have HI1 := Aside0.mk hI1; have HG1 := Aside0.mk hg1; clear hI1 hg1) | ((with_reducible refine gate_builtin (b := .append) (xs := #[.tmp 30, .tmp 31]) rfl ?_); at_builtin; refine Kd.R_append (Kd.int .u8) (w0 := w1) w.heap.size rfl (.tmp 30) (.tmp 31) 67 5 (.int .u8 0) 1 rfl Try.underlying67 info5 rfl (by decide) (by omega) u8 xs 68 [.int .u8 68] (fun _ => True) (fun _ => False) rfl rfl ?aP (fun _ hk => hk.elim) ?aF ?aO ?aB ?aS ?aL ?_; (case aP => exact rfl); (case aB => exact (Below.refl _ _)); (case aF => exact (fun _ _ => trivial)); (case aO => exact (R_turn HR.out HG1.out HC.out.turn)); (case aS => exact Nat.le_trans HG.out.size HG1.out.size); (case aL => have := HX.out; omega); intro v126 w13 ho hb hg hat; have HR2 := Aside0.mk ho; have HI2 := Aside0.mk (HC.out.keep _ _ HI1.out hb); have HG2 := Aside0.mk (grown_below (grown_trans HG.out HG1.out) hb); clear ho hb hg hat))
          go_roundg n
          case measure => have := HK.out; have := NE.out; omega
          case rel => exact ⟨r, u, d + 1, i + 1, xs ++ [68], rfl, rfl, rfl, rfl, ⟨by rw [List.length_append, List.length_singleton]; have := HX.out; omega⟩, ⟨by have := NE'.out; omega⟩, ⟨by rw [NE'.out]; exact HE2.out⟩, HR2, HI2, HG2⟩
        · rw [if_neg hc] at HE'
          have HE2 := Aside0.mk HE'
          clear HE'
          have q4 : wrap64 (r - F u (d + 1)) = r - F u (d + 1) := by unfold wrap64; omega
          have hcb : decide (r < F u (d + 1)) = false := decide_eq_false hc
          go_wp2_with (first | (go_at_fn g; refine c0.mono ?_; clear c0; rintro e w1 ⟨rfl, hI1, hg1⟩; have HI1 := Aside0.mk hI1; have HG1 := Aside0.mk hg1; clear hI1 hg1) | ((with_reducible refine gate_builtin (b := .append) (xs := #[.tmp 35, .tmp 36]) rfl ?_); at_builtin; refine Kd.R_append (Kd.int .u8) (w0 := w1) w.heap.size rfl (.tmp 35) (.tmp 36) 67 5 (.int .u8 0) 1 rfl Try.underlying67 info5 rfl (by decide) (by omega) u8 xs 85 [.int .u8 85] (fun _ => True) (fun _ => False) rfl rfl ?aP (fun _ hk => hk.elim) ?aF ?aO ?aB ?aS ?aL ?_; (case aP => exact rfl); (case aB => exact (Below.refl _ _)); (case aF => exact (fun _ _ => trivial)); (case aO => exact (R_turn HR.out HG1.out HC.out.turn)); (case aS => exact Nat.le_trans HG.out.size HG1.out.size); (case aL => have := HX.out; omega); intro v126 w13 ho hb hg hat; have HR2 := Aside0.mk ho; have HI2 := Aside0.mk (HC.out.keep _ _ HI1.out hb); have HG2 := Aside0.mk (grown_below (grown_trans HG.out HG1.out) hb); clear ho hb hg hat))
          go_roundg n
          case measure => have := HK.out; have := NE.out; omega
          case rel => exact ⟨r - F u (d + 1), u + 1, d, i + 1, xs ++ [85], rfl, rfl, rfl, rfl, ⟨by rw [List.length_append, List.length_singleton]; have := HX.out; omega⟩, ⟨by have := NE'.out; omega⟩, ⟨by rw [NE'.out]; exact HE2.out⟩, HR2, HI2, HG2⟩
      · have hltb : decide (i < s) = false := decide_eq_false hlt
        have hz : (s - i).toNat = 0 := by omega
        have HE' := HE.out
        rw [hz] at HE'
        simp only [tb] at HE'
        have HE2 := Aside0.mk HE'
        clear HE' hz
        have hcv16 := own_string (P := Try.prog) Try.underlying67 Try.underlying5 Try.underlying9 (Kd.own_of_R HR.out)
        go_wp2
        go_ret2
        exact ⟨by have e := HE2.out; first | (rw [← e]; rfl) | (rw [← e]; simp), HI.out, HG.out⟩
  · rw [if_neg hc]
    rw [decide_eq_false hc] at A5
    have A5 := Aside0.mk A5
    have HC := Aside0.mk hC
    clear hC hc hI
    go_enter Try.func53, Try.ntmps53
    go_wp2_with (first | (go_at_fn g; refine c0.mono ?_; clear c0; rintro e w1 ⟨rfl, hI1, hg1⟩; have HI1 := Aside0.mk hI1; have HG1 := Aside0.mk hg1; clear hI1 hg1) | ((with_reducible refine gate_callee (f := 60) rfl ?_); refine goesL_ (some 16) rfl rfl Try.func60 (by kernel_rfl) rfl #[.int .i64 rk, .int .i64 0, .int .i64 (F 0 0 - 1)] rfl (by (try simp only [List.map_toArray, List.map_cons, List.map_nil]); first | done | rfl) ?_; (with_reducible refine (impl_in.calls rk 0 (F 0 0 - 1) false _ A5.out).mono ?_); rintro e w' ⟨rfl, ⟨nd, rfl⟩⟩; refine ⟨_, rfl, ?_⟩))
    go_ret2
    exact ⟨rfl, HC.out.keep _ _ HI1.out (below_dn _ _ nd), grown_drewN HG1.out nd⟩
/-- The text of a rank, and whether there is one. -/
def TB (F : Int → Int → Int) (s rk : Int) : ByteArray × Bool := if 0 ≤ rk ∧ rk < F 0 0 then (strOfNums (tb F s.toNat 0 0 rk []), true) else (⟨#[]⟩, false)
theorem textBy.calls2 (g : Nat) (lb : Array Value) (F : Int → Int → Int) (m : Option Nat) (I : World → Prop) (s rk : Int) (w : World) (hC : Clos Try.prog g lb F w.heap.size m I) (hI : I w) (h0 : 0 ≤ s) (h40 : s ≤ 40) :
    Calls Try.prog 53 #[.int .i64 s, .int .i64 rk, .func (.func g) #[] lb] w fun e w' => e = .returned (.tuple #[.string (TB F s rk).1, .bool (TB F s rk).2]) ∧ I w' ∧ w.grownBy w' m :=
  (textBy.calls g lb F m I s rk w hC hI h0 h40).mono (fun e w' h => ⟨by rw [h.1]; unfold TB; split <;> rfl, h.2⟩)
/-- A key [u, d]. -/
def kv (u d : Int) : Value := .agg #[.int .i64 u, .int .i64 d]
def ents : DataW Unit → List (Lit × DataW Unit)
  | .map es => es
  | _ => []
/-- Each entry of the map, at a key [u, d], is F u d. -/
def Good (P : Program) (K : Nat) (F : Int → Int → Int) (D : DataW Unit) : Prop :=
  ∀ p ∈ ents D, ∃ u d : Nat, u < 42 ∧ d < 42 ∧ keyOf P K (kv u d) = some p.1 ∧ p.2 = .lit (.int .i64 (F u d))
/-- Block m is such a map. -/
def Memo (P : Program) (K E m : Nat) (F : Int → Int → Int) (w : World) : Prop :=
  ∃ D : DataW Unit, w.ownsMap P K (plainElem P E) m (Maps.size D) D ∧ Good P K F D
theorem nodup_len {α : Type} [DecidableEq α] : ∀ (l B : List α), l.Pairwise (· ≠ ·) → (∀ x ∈ l, x ∈ B) → l.length ≤ B.length
  | [], _, _, _ => Nat.zero_le _
  | x :: l, B, hn, hs => by
    obtain ⟨h1, h2⟩ := List.pairwise_cons.1 hn
    have hx := hs x List.mem_cons_self
    have := nodup_len l (B.erase x) h2 (fun y hy => (List.mem_erase_of_ne (fun e => h1 y hy e.symm)).2 (hs y (List.mem_cons_of_mem _ hy)))
    rw [List.length_erase_of_mem hx] at this
    have hp := List.length_pos_of_mem hx
    simp only [List.length_cons]; omega
theorem ownsMap_tight {P : Program} {k b n : Nat} {R : Value → Option (DataW Unit × List MemPlace)} {w : World} {D : DataW Unit} (h : w.ownsMap P k R b n D) : w.ownsMap P k R b (Maps.size D) D := by
  obtain ⟨es, clock, hb, F, hs, rfl⟩ := h
  exact ⟨es, clock, hb, F, by simp [Maps.size, length_sorted], rfl⟩
theorem Good.size {P : Program} {K E m n : Nat} {F : Int → Int → Int} {w : World} {D : DataW Unit} (law : Maps.Keyed P K) (ho : w.ownsMap P K (plainElem P E) m n D) (h : Good P K F D) : Maps.size D ≤ 1764 := by
  obtain ⟨es, rfl, hp⟩ := ho.tidy law
  have hB : ∀ x ∈ es.map (fun p => some p.1), x ∈ (List.range 1764).map (fun i => keyOf P K (kv ((i / 42 : Nat) : Int) ((i % 42 : Nat) : Int))) := by
    intro x hx
    obtain ⟨p, hpm, rfl⟩ := List.mem_map.1 hx
    obtain ⟨u, d, hu, hd, hk, _⟩ := h p hpm
    refine List.mem_map.2 ⟨u * 42 + d, List.mem_range.2 (by omega), ?_⟩
    rw [show (u * 42 + d) / 42 = u from by omega, show (u * 42 + d) % 42 = d from by omega]
    exact hk
  letI : DecidableEq (Option Lit) := fun a b => Classical.propDecidable (a = b)
  have := nodup_len (es.map (fun p => some p.1)) _ ((List.pairwise_map).2 (hp.imp (fun hne e => hne (Option.some.inj e)))) hB
  simpa [Maps.size] using this
theorem Good.hit {P : Program} {K : Nat} {F : Int → Int → Int} {D : DataW Unit} (law : Maps.Keyed P K) (h : Good P K F D) {u d : Nat} {kl : Lit} (hk : keyOf P K (kv u d) = some kl) (hh : Maps.has D kl = true) {c : Int} (hat : D.atKey kl (.lit (.int .i64 0)) = .lit (.int .i64 c)) : c = F u d := by
  cases D <;> try (simp [Maps.has] at hh; done)
  rename_i es
  simp only [Maps.has, List.any_eq_true] at hh
  have hf : ∃ p, es.find? (fun p => p.1.sameKey kl) = some p := by
    obtain ⟨p, hp, hs⟩ := hh
    cases hfe : es.find? (fun p => p.1.sameKey kl) with
    | some q => exact ⟨q, rfl⟩
    | none => exact absurd hs (by simpa using List.find?_eq_none.1 hfe p hp)
  obtain ⟨p, hp⟩ := hf
  have hs := List.find?_some hp
  have hm := List.mem_of_find?_eq_some hp
  simp only [DataW.atKey, hp] at hat
  obtain ⟨u', d', _, _, hk', hv⟩ := h p hm
  have e : p.1 = kl := Go.WideAt.sameKey_eq hs
  rw [e] at hk'
  have := law.inj hk hk'
  simp only [kv, Value.agg.injEq, Array.mk.injEq, List.cons.injEq, Value.int.injEq, true_and, and_true] at this
  obtain ⟨h1, h2⟩ := this
  rw [hv] at hat
  injection hat with hat
  injection hat with _ hat
  rw [← hat, h1, h2]
theorem Good.put {P : Program} {K : Nat} {F : Int → Int → Int} {D : DataW Unit} (hD : Maps.IsMap D) (h : Good P K F D) {u d : Nat} (hu : u < 42) (hd : d < 42) {kl : Lit} (hk : keyOf P K (kv u d) = some kl) : Good P K F (D.put kl (.lit (.int .i64 (F u d)))) := by
  obtain ⟨es, rfl⟩ := hD
  intro p hp
  simp only [DataW.put, ents] at hp
  rcases Go.ChangeMaps.mem_insert_iff.1 hp with rfl | hp
  · exact ⟨u, d, hu, hd, hk, rfl⟩
  · exact h p (List.mem_filter.1 hp).1
theorem Memo.made (P : Program) (K E : Nat) (F : Int → Int → Int) (w : World) : Memo P K E w.heap.size F (w.alloc (.map #[] 0)) :=
  ⟨.map [], World.ownsMap_made _ _ _ _, fun p hp => by simp [ents] at hp⟩
theorem Memo.kept {P : Program} {K E m : Nat} {F : Int → Int → Int} {w w' : World} {row : Option Nat} (h : Memo P K E m F w) (hg : w.grownBy w' row) (hne : some m ≠ row) : Memo P K E m F w' := by
  obtain ⟨D, ho, hd⟩ := h
  exact ⟨D, ho.kept hg hne, hd⟩
theorem Memo.below {P : Program} {K E m S : Nat} {F : Int → Int → Int} {w w' : World} (h : Memo P K E m F w) (hb : Below S w w') (hm : m < S) : Memo P K E m F w' := by
  obtain ⟨D, ⟨es, clock, h1, r⟩, hd⟩ := h
  exact ⟨D, ⟨es, clock, (hb.block m hm).trans h1, r⟩, hd⟩
theorem Memo.put {P : Program} {K E m n : Nat} {F : Int → Int → Int} {w' : World} {D' : DataW Unit} (ho : w'.ownsMap P K (plainElem P E) m n D') (hg : Good P K F D') : Memo P K E m F w' := ⟨D', ownsMap_tight ho, hg⟩
theorem Memo.lt {P : Program} {K E m : Nat} {F : Int → Int → Int} {w : World} (h : Memo P K E m F w) : m < w.heap.size := by
  obtain ⟨D, ho, _⟩ := h
  exact ho.lt
theorem wideK : (match Try.prog.underlying 69 with | some (.array _ _) | some (.struct _) => true | _ => false) = true := by rw [Try.underlying69]
theorem laidK : laidOutB Try.prog = true := by kernel_rfl
theorem lawK : Maps.Keyed Try.prog 69 := Maps.Keyed.of_law (deep_law_laid laidK (m := 2) (by omega) (of_decide_eq_true (by kernel_rfl)) (by kernel_rfl) wideK)
theorem zeroE (w : World) : (zeroValue 3).run Try.prog w = .ok (.int .i64 0) w := by kernel_rfl
theorem keyK (u d : Nat) (hu : u < 42) (hd : d < 42) : ∃ kl, keyOf Try.prog 69 (kv u d) = some kl := by
  have h1 : (Lit.int .i64 (u : Int)).wf = true := WalkArith.wf_i64 (by omega)
  have h2 : (Lit.int .i64 (d : Int)).wf = true := WalkArith.wf_i64 (by omega)
  have h3 : Try.prog.keyType 69 = true := by kernel_rfl
  have h4 : Try.prog.cellsOf 69 = 2 := by kernel_rfl
  have h5 : Try.prog.cellsOf 3 = 1 := by kernel_rfl
  have h6 : ∃ n, Try.prog.types.size = n + 1 := by
    refine ⟨Try.prog.types.size - 1, ?_⟩
    have : 0 < Try.prog.types.size := of_decide_eq_true (by kernel_rfl)
    omega
  obtain ⟨n, h6⟩ := h6
  have hf : (kv (u : Int) (d : Int)).formed Try.prog 69 = true := by simp [kv, Value.formed, Try.underlying69, h4]
  unfold keyOf
  rw [Try.underlying69]
  simp only [h3, hf, Bool.and_self, if_true, h6]
  simp [Program.keyLits, Try.underlying69, Try.underlying3, h4, h5, kv, Value.cells, h1, h2, List.range_succ]
theorem cell_one_two (w : World) (x y : Value) (t : Nat) : (w.alloc (.cells #[x, y] t)).cell? ⟨w.heap.size, 0, none⟩ = some x ∧ (w.alloc (.cells #[x, y] t)).cell? ⟨w.heap.size, 1, none⟩ = some y := ⟨World.cell?_alloc_at _ _ _ _ rfl, World.cell?_alloc_at _ _ _ _ rfl⟩
theorem w41 (x : Nat) (h : x ≤ 41) : IntKind.i64.wrap ((x : Int) + 1) = (x : Int) + 1 := by rw [IntKind.wrap_i64]; omega
/-- The captured variables. -/
structure OnP where
  p0 : Nat
  p1 : Nat
  p2 : Nat
  p3 : Nat
  p4 : Nat
  p5 : Nat
  m : Nat
  v0 : Int
  v1 : Int
  v2 : Int
  v3 : Int
def OnP.lb (p : OnP) : Array Value := #[.pointer (some ⟨p.p0, 0, none⟩), .pointer (some ⟨p.p1, 0, none⟩), .pointer (some ⟨p.p2, 0, none⟩), .pointer (some ⟨p.p3, 0, none⟩), .pointer (some ⟨p.p4, 0, none⟩), .pointer (some ⟨p.p5, 0, none⟩)]
structure OnP.Ok (p : OnP) (S : Nat) : Prop where
  s0 : p.p0 < S
  s1 : p.p1 < S
  s2 : p.p2 < S
  s3 : p.p3 < S
  s4 : p.p4 < S
  s5 : p.p5 < S
  sm : p.m < S
  n0 : p.p0 ≠ p.m
  n1 : p.p1 ≠ p.m
  n2 : p.p2 ≠ p.m
  n3 : p.p3 ≠ p.m
  n4 : p.p4 ≠ p.m
  n5 : p.p5 ≠ p.m
/-- What the closure finds. -/
structure OnI (N : Nat) (p : OnP) (F : Int → Int → Int) (w : World) : Prop where
  c0 : w.cell? ⟨p.p0, 0, none⟩ = some (.int .i64 p.v0)
  c1 : w.cell? ⟨p.p1, 0, none⟩ = some (.int .i64 p.v1)
  c2 : w.cell? ⟨p.p2, 0, none⟩ = some (.int .i64 p.v2)
  c3 : w.cell? ⟨p.p3, 0, none⟩ = some (.int .i64 p.v3)
  c4 : w.cell? ⟨p.p4, 0, none⟩ = some (.map (some p.m))
  c5 : w.cell? ⟨p.p5, 0, none⟩ = some (.func (.func N) #[] p.lb)
  mm : Memo Try.prog 69 3 p.m F w
theorem OnI.kept {N S : Nat} {p : OnP} {F : Int → Int → Int} {w w' : World} (h : OnI N p F w) (hp : p.Ok S) (hg : w.grownBy w' (some p.m)) (hm : Memo Try.prog 69 3 p.m F w') : OnI N p F w' :=
  ⟨cell_grown hg h.c0 (fun e => hp.n0 (Option.some.inj e)), cell_grown hg h.c1 (fun e => hp.n1 (Option.some.inj e)), cell_grown hg h.c2 (fun e => hp.n2 (Option.some.inj e)), cell_grown hg h.c3 (fun e => hp.n3 (Option.some.inj e)), cell_grown hg h.c4 (fun e => hp.n4 (Option.some.inj e)), cell_grown hg h.c5 (fun e => hp.n5 (Option.some.inj e)), hm⟩
theorem OnI.below {N S : Nat} {p : OnP} {F : Int → Int → Int} {w w' : World} (h : OnI N p F w) (hp : p.Ok S) (hb : Below S w w') : OnI N p F w' :=
  ⟨(hb.cell hp.s0).trans h.c0, (hb.cell hp.s1).trans h.c1, (hb.cell hp.s2).trans h.c2, (hb.cell hp.s3).trans h.c3, (hb.cell hp.s4).trans h.c4, (hb.cell hp.s5).trans h.c5, h.mm.below hb hp.sm⟩
/-- What is asked of the count. -/
structure OnF (out : Int → Int → Prop) [∀ u d, Decidable (out u d)] (a b : Int) (F : Int → Int → Int) : Prop where
  nn : ∀ u d, 0 ≤ F u d
  le : ∀ u d, F u d ≤ 1152921504606846976
  eq : ∀ u d, 0 ≤ u → u ≤ 41 → 0 ≤ d → d ≤ 41 → F u d = if u > a ∨ d > b ∨ out u d then 0 else if u = a ∧ d = b then 1 else F (u + 1) d + F u (d + 1)
theorem eg94 : ∀ args w, (callFunc 94 args).run Try.prog w = .ok (.enter 94 args) w := enters_of Try.func94 (by kernel_rfl) rfl

set_option maxHeartbeats 8000000 in
set_option maxRecDepth 100000 in
theorem onward2.hit1a (p : OnP) (S : Nat) (HP : Aside0 (p.Ok S)) (F : Int → Int → Int) (hF : Aside0 (OnF (fun u d => u + d > 0 ∧ u - p.v2 * d < p.v3) p.v0 p.v1 F)) (n : Nat) (ih : Aside0 (∀ (u d : Nat) (w : World), u < 42 → d < 42 → 82 - u - d < n → OnI 94 p F w →
    Calls Try.prog 94 (#[.int .i64 u, .int .i64 d] ++ p.lb) w fun e w' => e = .returned (.int .i64 (F u d)) ∧ OnI 94 p F w' ∧ w.grownBy w' (some p.m))) (u d : Nat) (w : World) (hu : u < 41) (hd : d < 41) (hn : 82 - u - d < n + 1) (HI : Aside0 (OnI 94 p F w))
    (he : F u d = F (u + 1) d + F u (d + 1))
    (hm0 : 0 ≤ p.v2 * (d : Int)) (hm1 : p.v2 * (d : Int) ≤ 205)
    (h1b : decide ((u : Int) > p.v0) = false) (h1c : decide (p.v0 < (u : Int)) = false) (h2b : decide ((d : Int) > p.v1) = false) (h2c : decide (p.v1 < (d : Int)) = false) (e1b : ((u : Int) == p.v0) = true) (e2b : ((d : Int) == p.v1) = false) (h3b : decide ((u : Int) + d > 0) = true) (h3c : decide (0 < (u : Int) + d) = true) (h4b : decide ((u : Int) - p.v2 * d < p.v3) = false)
    (kl : Lit) (hkl : Aside0 (keyOf Try.prog 69 (kv u d) = some kl)) (D : DataW Unit) (hD : Aside0 (w.ownsMap Try.prog 69 (plainElem Try.prog 3) p.m (Maps.size D) D)) (hG : Aside0 (Good Try.prog 69 F D)) (hh : Maps.has D kl = true) :
    Calls Try.prog 94 #[.int .i64 u, .int .i64 d, .pointer (some ⟨p.p0, 0, none⟩), .pointer (some ⟨p.p1, 0, none⟩), .pointer (some ⟨p.p2, 0, none⟩), .pointer (some ⟨p.p3, 0, none⟩), .pointer (some ⟨p.p4, 0, none⟩), .pointer (some ⟨p.p5, 0, none⟩)] w fun e w' => e = .returned (.int .i64 (F u d)) ∧ OnI 94 p F w' ∧ w.grownBy w' (some p.m) := by
  have c0 := HI.out.c0; have c1 := HI.out.c1; have c2 := HI.out.c2; have c3 := HI.out.c3; have c4 := HI.out.c4; have c5 := HI.out.c5
  have c4' : (w.alloc (.cells #[.int .i64 (u : Int), .int .i64 (d : Int)] 69)).cell? ⟨p.p4, 0, none⟩ = some (.map (some p.m)) := (World.cell?_alloc_past _ _ _ (World.block_lt_of_cell? w _ c4)).trans c4
  have c5' : (w.alloc (.cells #[.int .i64 (u : Int), .int .i64 (d : Int)] 69)).cell? ⟨p.p5, 0, none⟩ = some (.func (.func 94) #[] p.lb) := (World.cell?_alloc_past _ _ _ (World.block_lt_of_cell? w _ c5)).trans c5
  clear c4 c5
  have eg := eg94
  have GA : Aside0 (w.grownBy (w.alloc (.cells #[.int .i64 (u : Int), .int .i64 (d : Int)] 69)) (some p.m)) := ⟨World.grownBy_alloc _ _ _⟩
  have IA : Aside0 (OnI 94 p F (w.alloc (.cells #[.int .i64 (u : Int), .int .i64 (d : Int)] 69))) := ⟨HI.out.kept HP.out GA.out (HI.out.mm.kept (World.grownBy_alloc _ _ none) (by simp))⟩
  clear he
  go_enter Try.func94, Try.ntmps94
  go_wp2_with (first | (at_lookup; refine wpList_lookup_own_ok_int _ rfl _ _ 68 rfl 69 3 .i64 lawK Try.underlying68 Try.underlying3 (zeroE _) p.m _ D rfl (hD.out.alloc _) _ _ rfl hkl.out ?_; intro c hat hwc))
  go_ret
  have hc := hG.out.hit lawK hkl.out hh hat
  exact ⟨by show Ending.returned (.int .i64 c) = _; rw [hc], IA.out, GA.out⟩

set_option maxHeartbeats 8000000 in
set_option maxRecDepth 100000 in
theorem onward2.miss1a (p : OnP) (S : Nat) (HP : Aside0 (p.Ok S)) (F : Int → Int → Int) (hF : Aside0 (OnF (fun u d => u + d > 0 ∧ u - p.v2 * d < p.v3) p.v0 p.v1 F)) (n : Nat) (ih : Aside0 (∀ (u d : Nat) (w : World), u < 42 → d < 42 → 82 - u - d < n → OnI 94 p F w →
    Calls Try.prog 94 (#[.int .i64 u, .int .i64 d] ++ p.lb) w fun e w' => e = .returned (.int .i64 (F u d)) ∧ OnI 94 p F w' ∧ w.grownBy w' (some p.m))) (u d : Nat) (w : World) (hu : u < 41) (hd : d < 41) (hn : 82 - u - d < n + 1) (HI : Aside0 (OnI 94 p F w))
    (he : F u d = F (u + 1) d + F u (d + 1))
    (hm0 : 0 ≤ p.v2 * (d : Int)) (hm1 : p.v2 * (d : Int) ≤ 205)
    (h1b : decide ((u : Int) > p.v0) = false) (h1c : decide (p.v0 < (u : Int)) = false) (h2b : decide ((d : Int) > p.v1) = false) (h2c : decide (p.v1 < (d : Int)) = false) (e1b : ((u : Int) == p.v0) = true) (e2b : ((d : Int) == p.v1) = false) (h3b : decide ((u : Int) + d > 0) = true) (h3c : decide (0 < (u : Int) + d) = true) (h4b : decide ((u : Int) - p.v2 * d < p.v3) = false)
    (kl : Lit) (hkl : Aside0 (keyOf Try.prog 69 (kv u d) = some kl)) (D : DataW Unit) (hD : Aside0 (w.ownsMap Try.prog 69 (plainElem Try.prog 3) p.m (Maps.size D) D)) (hG : Aside0 (Good Try.prog 69 F D)) (hh : Maps.has D kl = false) :
    Calls Try.prog 94 #[.int .i64 u, .int .i64 d, .pointer (some ⟨p.p0, 0, none⟩), .pointer (some ⟨p.p1, 0, none⟩), .pointer (some ⟨p.p2, 0, none⟩), .pointer (some ⟨p.p3, 0, none⟩), .pointer (some ⟨p.p4, 0, none⟩), .pointer (some ⟨p.p5, 0, none⟩)] w fun e w' => e = .returned (.int .i64 (F u d)) ∧ OnI 94 p F w' ∧ w.grownBy w' (some p.m) := by
  have c0 := HI.out.c0; have c1 := HI.out.c1; have c2 := HI.out.c2; have c3 := HI.out.c3; have c4 := HI.out.c4; have c5 := HI.out.c5
  have c4' : (w.alloc (.cells #[.int .i64 (u : Int), .int .i64 (d : Int)] 69)).cell? ⟨p.p4, 0, none⟩ = some (.map (some p.m)) := (World.cell?_alloc_past _ _ _ (World.block_lt_of_cell? w _ c4)).trans c4
  have c5' : (w.alloc (.cells #[.int .i64 (u : Int), .int .i64 (d : Int)] 69)).cell? ⟨p.p5, 0, none⟩ = some (.func (.func 94) #[] p.lb) := (World.cell?_alloc_past _ _ _ (World.block_lt_of_cell? w _ c5)).trans c5
  clear c4 c5
  have eg := eg94
  have GA : Aside0 (w.grownBy (w.alloc (.cells #[.int .i64 (u : Int), .int .i64 (d : Int)] 69)) (some p.m)) := ⟨World.grownBy_alloc _ _ _⟩
  have IA : Aside0 (OnI 94 p F (w.alloc (.cells #[.int .i64 (u : Int), .int .i64 (d : Int)] 69))) := ⟨HI.out.kept HP.out GA.out (HI.out.mm.kept (World.grownBy_alloc _ _ none) (by simp))⟩
  have IAd := Aside0.mk (IA.out.below HP.out ((Below.refl S (w.alloc (.cells #[.int .i64 (u : Int), .int .i64 (d : Int)] 69))).drew))
  have GAd : Aside0 ((w.alloc (.cells #[.int .i64 (u : Int), .int .i64 (d : Int)] 69)).grownBy (w.alloc (.cells #[.int .i64 (u : Int), .int .i64 (d : Int)] 69)).drew (some p.m)) := ⟨grown_drewN (World.grownBy.refl _ _) 1⟩
  have c5d : (w.alloc (.cells #[.int .i64 (u : Int), .int .i64 (d : Int)] 69)).drew.cell? ⟨p.p5, 0, none⟩ = some (.func (.func 94) #[] p.lb) := c5'
  have H1 : ∀ W, Aside0 (OnI 94 p F W) → Calls Try.prog 94 (#[.int .i64 (IntKind.i64.wrap ((u : Int) + 1)), .int .i64 (d : Int)] ++ p.lb) W fun e w' => e = .returned (.int .i64 (F ((u : Int) + 1) d)) ∧ Aside0 (OnI 94 p F w') ∧ Aside0 (W.grownBy w' (some p.m)) := fun W hW => by
    have := ih.out (u + 1) d W (by omega) (by omega) (by omega) hW.out
    rw [Int.natCast_add, Int.natCast_one] at this
    rw [w41 u (by omega)]
    exact this.mono (fun e w' h => ⟨h.1, ⟨h.2.1⟩, ⟨h.2.2⟩⟩)
  have H2 : ∀ W, Aside0 (OnI 94 p F W) → Calls Try.prog 94 (#[.int .i64 (u : Int), .int .i64 (IntKind.i64.wrap ((d : Int) + 1))] ++ p.lb) W fun e w' => e = .returned (.int .i64 (F (u : Int) ((d : Int) + 1))) ∧ Aside0 (OnI 94 p F w') ∧ Aside0 (W.grownBy w' (some p.m)) := fun W hW => by
    have := ih.out u (d + 1) W (by omega) (by omega) (by omega) hW.out
    rw [Int.natCast_add, Int.natCast_one] at this
    rw [w41 d (by omega)]
    exact this.mono (fun e w' h => ⟨h.1, ⟨h.2.1⟩, ⟨h.2.2⟩⟩)
  have HH1 := Aside0.mk H1
  have HH2 := Aside0.mk H2
  clear H1 H2
  have hs : wrap64 (F ((u : Int) + 1) d + F u ((d : Int) + 1)) = F u d := by
    have h1 := hF.out.nn u d
    have h2 := hF.out.le u d
    rw [← he]; unfold wrap64; omega
  have hv : plainElem (H := Unit) Try.prog 3 (.int .i64 (IntKind.i64.wrap (F ((u : Int) + 1) d + F u ((d : Int) + 1)))) = some (.lit (.int .i64 (F u d)), []) := by
    have h1 := hF.out.nn u d
    have h2 := hF.out.le u d
    rw [show IntKind.i64.wrap (F ((u : Int) + 1) d + F u ((d : Int) + 1)) = F u d from by rw [← he, IntKind.wrap_i64]; omega]
    exact plainElem_int Try.underlying3 (WalkArith.wf_i64 (by omega))
  have HV := Aside0.mk hv
  clear hv
  have k0 := cell_one_two w (.int .i64 (u : Int)) (.int .i64 (d : Int)) 69
  have HK0 := Aside0.mk k0
  have HS := Aside0.mk hs
  clear k0 hs he
  go_enter Try.func94, Try.ntmps94
  go_wp2_with (first | (at_lookup; refine wpList_lookup_own_ok_int _ rfl _ _ 68 rfl 69 3 .i64 lawK Try.underlying68 Try.underlying3 (zeroE _) p.m _ D rfl (hD.out.alloc _) _ _ rfl hkl.out ?_; intro c hat hwc))
  clear hat hwc c0 c1 c2 c3 c4'
  clear hm0 hm1 h1b h1c h2b h2c e1b e2b h3b h3c h4b
  go_region_held3 (fun w' => w'.cell? ⟨p.p5, 0, none⟩ = some (.func (.func 94) #[] p.lb) ∧ Aside0 (OnI 94 p F w') ∧ Aside0 ((w.alloc (.cells #[.int .i64 (u : Int), .int .i64 (d : Int)] 69)).grownBy w' (some p.m))) (first | with_reducible exact ⟨c5d, IAd, GAd⟩ | exact ⟨HJ2.out.c5, HJ2, HQ2⟩ | exact ⟨HJ.out.c5, HJ, HQ⟩) (first | (go_at_call 94; refine (HH1.out _ IAd).mono ?_; clear HH1; rintro e w1 ⟨rfl, HJ, HGJ⟩; have HQ := Aside0.mk (grown_trans GAd.out HGJ.out); clear IAd GAd) | (go_at_call 94; refine (HH2.out _ HJ).mono ?_; rintro e w2 ⟨rfl, HJ2, HGJ2⟩; have HQ2 := Aside0.mk (grown_trans HQ.out HGJ2.out); clear HJ HGJ HQ))
  have b4 := HJ2.out.c4
  have hne : some w.heap.size ≠ some p.m := fun e => by have := HI.out.mm.lt; have := Option.some.inj e; omega
  have b0 : w2.cell? ⟨w.heap.size, 0, none⟩ = some (.int .i64 (u : Int)) := cell_grown HQ2.out HK0.out.1 hne
  have b1 : w2.cell? ⟨w.heap.size, 1, none⟩ = some (.int .i64 (d : Int)) := cell_grown HQ2.out HK0.out.2 hne
  obtain ⟨D2, hD2', hG2'⟩ := HJ2.out.mm
  have hD2 := Aside0.mk hD2'
  have hG2 := Aside0.mk hG2'
  have hn2 : Maps.size D2 < maxLen := Nat.lt_of_le_of_lt (Good.size lawK hD2' hG2') (by unfold maxLen; omega)
  clear hD2' hG2' hne
  clear c5' c5d
  go_wp2_with (first | (at_mapUpdate; refine wpList_mapUpdate_own _ rfl _ _ _ 68 rfl 69 3 lawK Try.underlying68 _ p.m _ D2 rfl hD2.out hn2 _ _ kl rfl rfl hkl.out _ [] HV.out ?_; intro w3 hown3 hg3))
  go_ret
  have hgg := grown_trans (grown_trans GA.out HQ2.out) hg3
  exact ⟨by show Ending.returned (.int .i64 (wrap64 (F ((u : Int) + 1) d + F u ((d : Int) + 1)))) = _; rw [HS.out], HJ2.out.kept HP.out hg3 (Memo.put hown3 (hG2.out.put (hD2.out.isMap) (by omega) (by omega) hkl.out)), hgg⟩

set_option maxHeartbeats 8000000 in
set_option maxRecDepth 100000 in
theorem onward2.hit1b (p : OnP) (S : Nat) (HP : Aside0 (p.Ok S)) (F : Int → Int → Int) (hF : Aside0 (OnF (fun u d => u + d > 0 ∧ u - p.v2 * d < p.v3) p.v0 p.v1 F)) (n : Nat) (ih : Aside0 (∀ (u d : Nat) (w : World), u < 42 → d < 42 → 82 - u - d < n → OnI 94 p F w →
    Calls Try.prog 94 (#[.int .i64 u, .int .i64 d] ++ p.lb) w fun e w' => e = .returned (.int .i64 (F u d)) ∧ OnI 94 p F w' ∧ w.grownBy w' (some p.m))) (u d : Nat) (w : World) (hu : u < 41) (hd : d < 41) (hn : 82 - u - d < n + 1) (HI : Aside0 (OnI 94 p F w))
    (he : F u d = F (u + 1) d + F u (d + 1))
    (hm0 : 0 ≤ p.v2 * (d : Int)) (hm1 : p.v2 * (d : Int) ≤ 205)
    (h1b : decide ((u : Int) > p.v0) = false) (h1c : decide (p.v0 < (u : Int)) = false) (h2b : decide ((d : Int) > p.v1) = false) (h2c : decide (p.v1 < (d : Int)) = false) (e1b : ((u : Int) == p.v0) = false) (h3b : decide ((u : Int) + d > 0) = true) (h3c : decide (0 < (u : Int) + d) = true) (h4b : decide ((u : Int) - p.v2 * d < p.v3) = false)
    (kl : Lit) (hkl : Aside0 (keyOf Try.prog 69 (kv u d) = some kl)) (D : DataW Unit) (hD : Aside0 (w.ownsMap Try.prog 69 (plainElem Try.prog 3) p.m (Maps.size D) D)) (hG : Aside0 (Good Try.prog 69 F D)) (hh : Maps.has D kl = true) :
    Calls Try.prog 94 #[.int .i64 u, .int .i64 d, .pointer (some ⟨p.p0, 0, none⟩), .pointer (some ⟨p.p1, 0, none⟩), .pointer (some ⟨p.p2, 0, none⟩), .pointer (some ⟨p.p3, 0, none⟩), .pointer (some ⟨p.p4, 0, none⟩), .pointer (some ⟨p.p5, 0, none⟩)] w fun e w' => e = .returned (.int .i64 (F u d)) ∧ OnI 94 p F w' ∧ w.grownBy w' (some p.m) := by
  have c0 := HI.out.c0; have c1 := HI.out.c1; have c2 := HI.out.c2; have c3 := HI.out.c3; have c4 := HI.out.c4; have c5 := HI.out.c5
  have c4' : (w.alloc (.cells #[.int .i64 (u : Int), .int .i64 (d : Int)] 69)).cell? ⟨p.p4, 0, none⟩ = some (.map (some p.m)) := (World.cell?_alloc_past _ _ _ (World.block_lt_of_cell? w _ c4)).trans c4
  have c5' : (w.alloc (.cells #[.int .i64 (u : Int), .int .i64 (d : Int)] 69)).cell? ⟨p.p5, 0, none⟩ = some (.func (.func 94) #[] p.lb) := (World.cell?_alloc_past _ _ _ (World.block_lt_of_cell? w _ c5)).trans c5
  clear c4 c5
  have eg := eg94
  have GA : Aside0 (w.grownBy (w.alloc (.cells #[.int .i64 (u : Int), .int .i64 (d : Int)] 69)) (some p.m)) := ⟨World.grownBy_alloc _ _ _⟩
  have IA : Aside0 (OnI 94 p F (w.alloc (.cells #[.int .i64 (u : Int), .int .i64 (d : Int)] 69))) := ⟨HI.out.kept HP.out GA.out (HI.out.mm.kept (World.grownBy_alloc _ _ none) (by simp))⟩
  clear he
  go_enter Try.func94, Try.ntmps94
  go_wp2_with (first | (at_lookup; refine wpList_lookup_own_ok_int _ rfl _ _ 68 rfl 69 3 .i64 lawK Try.underlying68 Try.underlying3 (zeroE _) p.m _ D rfl (hD.out.alloc _) _ _ rfl hkl.out ?_; intro c hat hwc))
  go_ret
  have hc := hG.out.hit lawK hkl.out hh hat
  exact ⟨by show Ending.returned (.int .i64 c) = _; rw [hc], IA.out, GA.out⟩

set_option maxHeartbeats 8000000 in
set_option maxRecDepth 100000 in
theorem onward2.miss1b (p : OnP) (S : Nat) (HP : Aside0 (p.Ok S)) (F : Int → Int → Int) (hF : Aside0 (OnF (fun u d => u + d > 0 ∧ u - p.v2 * d < p.v3) p.v0 p.v1 F)) (n : Nat) (ih : Aside0 (∀ (u d : Nat) (w : World), u < 42 → d < 42 → 82 - u - d < n → OnI 94 p F w →
    Calls Try.prog 94 (#[.int .i64 u, .int .i64 d] ++ p.lb) w fun e w' => e = .returned (.int .i64 (F u d)) ∧ OnI 94 p F w' ∧ w.grownBy w' (some p.m))) (u d : Nat) (w : World) (hu : u < 41) (hd : d < 41) (hn : 82 - u - d < n + 1) (HI : Aside0 (OnI 94 p F w))
    (he : F u d = F (u + 1) d + F u (d + 1))
    (hm0 : 0 ≤ p.v2 * (d : Int)) (hm1 : p.v2 * (d : Int) ≤ 205)
    (h1b : decide ((u : Int) > p.v0) = false) (h1c : decide (p.v0 < (u : Int)) = false) (h2b : decide ((d : Int) > p.v1) = false) (h2c : decide (p.v1 < (d : Int)) = false) (e1b : ((u : Int) == p.v0) = false) (h3b : decide ((u : Int) + d > 0) = true) (h3c : decide (0 < (u : Int) + d) = true) (h4b : decide ((u : Int) - p.v2 * d < p.v3) = false)
    (kl : Lit) (hkl : Aside0 (keyOf Try.prog 69 (kv u d) = some kl)) (D : DataW Unit) (hD : Aside0 (w.ownsMap Try.prog 69 (plainElem Try.prog 3) p.m (Maps.size D) D)) (hG : Aside0 (Good Try.prog 69 F D)) (hh : Maps.has D kl = false) :
    Calls Try.prog 94 #[.int .i64 u, .int .i64 d, .pointer (some ⟨p.p0, 0, none⟩), .pointer (some ⟨p.p1, 0, none⟩), .pointer (some ⟨p.p2, 0, none⟩), .pointer (some ⟨p.p3, 0, none⟩), .pointer (some ⟨p.p4, 0, none⟩), .pointer (some ⟨p.p5, 0, none⟩)] w fun e w' => e = .returned (.int .i64 (F u d)) ∧ OnI 94 p F w' ∧ w.grownBy w' (some p.m) := by
  have c0 := HI.out.c0; have c1 := HI.out.c1; have c2 := HI.out.c2; have c3 := HI.out.c3; have c4 := HI.out.c4; have c5 := HI.out.c5
  have c4' : (w.alloc (.cells #[.int .i64 (u : Int), .int .i64 (d : Int)] 69)).cell? ⟨p.p4, 0, none⟩ = some (.map (some p.m)) := (World.cell?_alloc_past _ _ _ (World.block_lt_of_cell? w _ c4)).trans c4
  have c5' : (w.alloc (.cells #[.int .i64 (u : Int), .int .i64 (d : Int)] 69)).cell? ⟨p.p5, 0, none⟩ = some (.func (.func 94) #[] p.lb) := (World.cell?_alloc_past _ _ _ (World.block_lt_of_cell? w _ c5)).trans c5
  clear c4 c5
  have eg := eg94
  have GA : Aside0 (w.grownBy (w.alloc (.cells #[.int .i64 (u : Int), .int .i64 (d : Int)] 69)) (some p.m)) := ⟨World.grownBy_alloc _ _ _⟩
  have IA : Aside0 (OnI 94 p F (w.alloc (.cells #[.int .i64 (u : Int), .int .i64 (d : Int)] 69))) := ⟨HI.out.kept HP.out GA.out (HI.out.mm.kept (World.grownBy_alloc _ _ none) (by simp))⟩
  have IAd := Aside0.mk (IA.out.below HP.out ((Below.refl S (w.alloc (.cells #[.int .i64 (u : Int), .int .i64 (d : Int)] 69))).drew))
  have GAd : Aside0 ((w.alloc (.cells #[.int .i64 (u : Int), .int .i64 (d : Int)] 69)).grownBy (w.alloc (.cells #[.int .i64 (u : Int), .int .i64 (d : Int)] 69)).drew (some p.m)) := ⟨grown_drewN (World.grownBy.refl _ _) 1⟩
  have c5d : (w.alloc (.cells #[.int .i64 (u : Int), .int .i64 (d : Int)] 69)).drew.cell? ⟨p.p5, 0, none⟩ = some (.func (.func 94) #[] p.lb) := c5'
  have H1 : ∀ W, Aside0 (OnI 94 p F W) → Calls Try.prog 94 (#[.int .i64 (IntKind.i64.wrap ((u : Int) + 1)), .int .i64 (d : Int)] ++ p.lb) W fun e w' => e = .returned (.int .i64 (F ((u : Int) + 1) d)) ∧ Aside0 (OnI 94 p F w') ∧ Aside0 (W.grownBy w' (some p.m)) := fun W hW => by
    have := ih.out (u + 1) d W (by omega) (by omega) (by omega) hW.out
    rw [Int.natCast_add, Int.natCast_one] at this
    rw [w41 u (by omega)]
    exact this.mono (fun e w' h => ⟨h.1, ⟨h.2.1⟩, ⟨h.2.2⟩⟩)
  have H2 : ∀ W, Aside0 (OnI 94 p F W) → Calls Try.prog 94 (#[.int .i64 (u : Int), .int .i64 (IntKind.i64.wrap ((d : Int) + 1))] ++ p.lb) W fun e w' => e = .returned (.int .i64 (F (u : Int) ((d : Int) + 1))) ∧ Aside0 (OnI 94 p F w') ∧ Aside0 (W.grownBy w' (some p.m)) := fun W hW => by
    have := ih.out u (d + 1) W (by omega) (by omega) (by omega) hW.out
    rw [Int.natCast_add, Int.natCast_one] at this
    rw [w41 d (by omega)]
    exact this.mono (fun e w' h => ⟨h.1, ⟨h.2.1⟩, ⟨h.2.2⟩⟩)
  have HH1 := Aside0.mk H1
  have HH2 := Aside0.mk H2
  clear H1 H2
  have hs : wrap64 (F ((u : Int) + 1) d + F u ((d : Int) + 1)) = F u d := by
    have h1 := hF.out.nn u d
    have h2 := hF.out.le u d
    rw [← he]; unfold wrap64; omega
  have hv : plainElem (H := Unit) Try.prog 3 (.int .i64 (IntKind.i64.wrap (F ((u : Int) + 1) d + F u ((d : Int) + 1)))) = some (.lit (.int .i64 (F u d)), []) := by
    have h1 := hF.out.nn u d
    have h2 := hF.out.le u d
    rw [show IntKind.i64.wrap (F ((u : Int) + 1) d + F u ((d : Int) + 1)) = F u d from by rw [← he, IntKind.wrap_i64]; omega]
    exact plainElem_int Try.underlying3 (WalkArith.wf_i64 (by omega))
  have HV := Aside0.mk hv
  clear hv
  have k0 := cell_one_two w (.int .i64 (u : Int)) (.int .i64 (d : Int)) 69
  have HK0 := Aside0.mk k0
  have HS := Aside0.mk hs
  clear k0 hs he
  go_enter Try.func94, Try.ntmps94
  go_wp2_with (first | (at_lookup; refine wpList_lookup_own_ok_int _ rfl _ _ 68 rfl 69 3 .i64 lawK Try.underlying68 Try.underlying3 (zeroE _) p.m _ D rfl (hD.out.alloc _) _ _ rfl hkl.out ?_; intro c hat hwc))
  clear hat hwc c0 c1 c2 c3 c4'
  clear hm0 hm1 h1b h1c h2b h2c e1b h3b h3c h4b
  go_region_held3 (fun w' => w'.cell? ⟨p.p5, 0, none⟩ = some (.func (.func 94) #[] p.lb) ∧ Aside0 (OnI 94 p F w') ∧ Aside0 ((w.alloc (.cells #[.int .i64 (u : Int), .int .i64 (d : Int)] 69)).grownBy w' (some p.m))) (first | with_reducible exact ⟨c5d, IAd, GAd⟩ | exact ⟨HJ2.out.c5, HJ2, HQ2⟩ | exact ⟨HJ.out.c5, HJ, HQ⟩) (first | (go_at_call 94; refine (HH1.out _ IAd).mono ?_; clear HH1; rintro e w1 ⟨rfl, HJ, HGJ⟩; have HQ := Aside0.mk (grown_trans GAd.out HGJ.out); clear IAd GAd) | (go_at_call 94; refine (HH2.out _ HJ).mono ?_; rintro e w2 ⟨rfl, HJ2, HGJ2⟩; have HQ2 := Aside0.mk (grown_trans HQ.out HGJ2.out); clear HJ HGJ HQ))
  have b4 := HJ2.out.c4
  have hne : some w.heap.size ≠ some p.m := fun e => by have := HI.out.mm.lt; have := Option.some.inj e; omega
  have b0 : w2.cell? ⟨w.heap.size, 0, none⟩ = some (.int .i64 (u : Int)) := cell_grown HQ2.out HK0.out.1 hne
  have b1 : w2.cell? ⟨w.heap.size, 1, none⟩ = some (.int .i64 (d : Int)) := cell_grown HQ2.out HK0.out.2 hne
  obtain ⟨D2, hD2', hG2'⟩ := HJ2.out.mm
  have hD2 := Aside0.mk hD2'
  have hG2 := Aside0.mk hG2'
  have hn2 : Maps.size D2 < maxLen := Nat.lt_of_le_of_lt (Good.size lawK hD2' hG2') (by unfold maxLen; omega)
  clear hD2' hG2' hne
  clear c5' c5d
  go_wp2_with (first | (at_mapUpdate; refine wpList_mapUpdate_own _ rfl _ _ _ 68 rfl 69 3 lawK Try.underlying68 _ p.m _ D2 rfl hD2.out hn2 _ _ kl rfl rfl hkl.out _ [] HV.out ?_; intro w3 hown3 hg3))
  go_ret
  have hgg := grown_trans (grown_trans GA.out HQ2.out) hg3
  exact ⟨by show Ending.returned (.int .i64 (wrap64 (F ((u : Int) + 1) d + F u ((d : Int) + 1)))) = _; rw [HS.out], HJ2.out.kept HP.out hg3 (Memo.put hown3 (hG2.out.put (hD2.out.isMap) (by omega) (by omega) hkl.out)), hgg⟩

set_option maxHeartbeats 8000000 in
set_option maxRecDepth 100000 in
theorem onward2.hit2a (p : OnP) (S : Nat) (HP : Aside0 (p.Ok S)) (F : Int → Int → Int) (hF : Aside0 (OnF (fun u d => u + d > 0 ∧ u - p.v2 * d < p.v3) p.v0 p.v1 F)) (n : Nat) (ih : Aside0 (∀ (u d : Nat) (w : World), u < 42 → d < 42 → 82 - u - d < n → OnI 94 p F w →
    Calls Try.prog 94 (#[.int .i64 u, .int .i64 d] ++ p.lb) w fun e w' => e = .returned (.int .i64 (F u d)) ∧ OnI 94 p F w' ∧ w.grownBy w' (some p.m))) (u d : Nat) (w : World) (hu : u < 41) (hd : d < 41) (hn : 82 - u - d < n + 1) (HI : Aside0 (OnI 94 p F w))
    (he : F u d = F (u + 1) d + F u (d + 1))
    (hm0 : 0 ≤ p.v2 * (d : Int)) (hm1 : p.v2 * (d : Int) ≤ 205)
    (h1b : decide ((u : Int) > p.v0) = false) (h1c : decide (p.v0 < (u : Int)) = false) (h2b : decide ((d : Int) > p.v1) = false) (h2c : decide (p.v1 < (d : Int)) = false) (e1b : ((u : Int) == p.v0) = true) (e2b : ((d : Int) == p.v1) = false) (h3b : decide ((u : Int) + d > 0) = false) (h3c : decide (0 < (u : Int) + d) = false)
    (kl : Lit) (hkl : Aside0 (keyOf Try.prog 69 (kv u d) = some kl)) (D : DataW Unit) (hD : Aside0 (w.ownsMap Try.prog 69 (plainElem Try.prog 3) p.m (Maps.size D) D)) (hG : Aside0 (Good Try.prog 69 F D)) (hh : Maps.has D kl = true) :
    Calls Try.prog 94 #[.int .i64 u, .int .i64 d, .pointer (some ⟨p.p0, 0, none⟩), .pointer (some ⟨p.p1, 0, none⟩), .pointer (some ⟨p.p2, 0, none⟩), .pointer (some ⟨p.p3, 0, none⟩), .pointer (some ⟨p.p4, 0, none⟩), .pointer (some ⟨p.p5, 0, none⟩)] w fun e w' => e = .returned (.int .i64 (F u d)) ∧ OnI 94 p F w' ∧ w.grownBy w' (some p.m) := by
  have c0 := HI.out.c0; have c1 := HI.out.c1; have c2 := HI.out.c2; have c3 := HI.out.c3; have c4 := HI.out.c4; have c5 := HI.out.c5
  have c4' : (w.alloc (.cells #[.int .i64 (u : Int), .int .i64 (d : Int)] 69)).cell? ⟨p.p4, 0, none⟩ = some (.map (some p.m)) := (World.cell?_alloc_past _ _ _ (World.block_lt_of_cell? w _ c4)).trans c4
  have c5' : (w.alloc (.cells #[.int .i64 (u : Int), .int .i64 (d : Int)] 69)).cell? ⟨p.p5, 0, none⟩ = some (.func (.func 94) #[] p.lb) := (World.cell?_alloc_past _ _ _ (World.block_lt_of_cell? w _ c5)).trans c5
  clear c4 c5
  have eg := eg94
  have GA : Aside0 (w.grownBy (w.alloc (.cells #[.int .i64 (u : Int), .int .i64 (d : Int)] 69)) (some p.m)) := ⟨World.grownBy_alloc _ _ _⟩
  have IA : Aside0 (OnI 94 p F (w.alloc (.cells #[.int .i64 (u : Int), .int .i64 (d : Int)] 69))) := ⟨HI.out.kept HP.out GA.out (HI.out.mm.kept (World.grownBy_alloc _ _ none) (by simp))⟩
  clear he
  go_enter Try.func94, Try.ntmps94
  go_wp2_with (first | (at_lookup; refine wpList_lookup_own_ok_int _ rfl _ _ 68 rfl 69 3 .i64 lawK Try.underlying68 Try.underlying3 (zeroE _) p.m _ D rfl (hD.out.alloc _) _ _ rfl hkl.out ?_; intro c hat hwc))
  go_ret
  have hc := hG.out.hit lawK hkl.out hh hat
  exact ⟨by show Ending.returned (.int .i64 c) = _; rw [hc], IA.out, GA.out⟩

set_option maxHeartbeats 8000000 in
set_option maxRecDepth 100000 in
theorem onward2.miss2a (p : OnP) (S : Nat) (HP : Aside0 (p.Ok S)) (F : Int → Int → Int) (hF : Aside0 (OnF (fun u d => u + d > 0 ∧ u - p.v2 * d < p.v3) p.v0 p.v1 F)) (n : Nat) (ih : Aside0 (∀ (u d : Nat) (w : World), u < 42 → d < 42 → 82 - u - d < n → OnI 94 p F w →
    Calls Try.prog 94 (#[.int .i64 u, .int .i64 d] ++ p.lb) w fun e w' => e = .returned (.int .i64 (F u d)) ∧ OnI 94 p F w' ∧ w.grownBy w' (some p.m))) (u d : Nat) (w : World) (hu : u < 41) (hd : d < 41) (hn : 82 - u - d < n + 1) (HI : Aside0 (OnI 94 p F w))
    (he : F u d = F (u + 1) d + F u (d + 1))
    (hm0 : 0 ≤ p.v2 * (d : Int)) (hm1 : p.v2 * (d : Int) ≤ 205)
    (h1b : decide ((u : Int) > p.v0) = false) (h1c : decide (p.v0 < (u : Int)) = false) (h2b : decide ((d : Int) > p.v1) = false) (h2c : decide (p.v1 < (d : Int)) = false) (e1b : ((u : Int) == p.v0) = true) (e2b : ((d : Int) == p.v1) = false) (h3b : decide ((u : Int) + d > 0) = false) (h3c : decide (0 < (u : Int) + d) = false)
    (kl : Lit) (hkl : Aside0 (keyOf Try.prog 69 (kv u d) = some kl)) (D : DataW Unit) (hD : Aside0 (w.ownsMap Try.prog 69 (plainElem Try.prog 3) p.m (Maps.size D) D)) (hG : Aside0 (Good Try.prog 69 F D)) (hh : Maps.has D kl = false) :
    Calls Try.prog 94 #[.int .i64 u, .int .i64 d, .pointer (some ⟨p.p0, 0, none⟩), .pointer (some ⟨p.p1, 0, none⟩), .pointer (some ⟨p.p2, 0, none⟩), .pointer (some ⟨p.p3, 0, none⟩), .pointer (some ⟨p.p4, 0, none⟩), .pointer (some ⟨p.p5, 0, none⟩)] w fun e w' => e = .returned (.int .i64 (F u d)) ∧ OnI 94 p F w' ∧ w.grownBy w' (some p.m) := by
  have c0 := HI.out.c0; have c1 := HI.out.c1; have c2 := HI.out.c2; have c3 := HI.out.c3; have c4 := HI.out.c4; have c5 := HI.out.c5
  have c4' : (w.alloc (.cells #[.int .i64 (u : Int), .int .i64 (d : Int)] 69)).cell? ⟨p.p4, 0, none⟩ = some (.map (some p.m)) := (World.cell?_alloc_past _ _ _ (World.block_lt_of_cell? w _ c4)).trans c4
  have c5' : (w.alloc (.cells #[.int .i64 (u : Int), .int .i64 (d : Int)] 69)).cell? ⟨p.p5, 0, none⟩ = some (.func (.func 94) #[] p.lb) := (World.cell?_alloc_past _ _ _ (World.block_lt_of_cell? w _ c5)).trans c5
  clear c4 c5
  have eg := eg94
  have GA : Aside0 (w.grownBy (w.alloc (.cells #[.int .i64 (u : Int), .int .i64 (d : Int)] 69)) (some p.m)) := ⟨World.grownBy_alloc _ _ _⟩
  have IA : Aside0 (OnI 94 p F (w.alloc (.cells #[.int .i64 (u : Int), .int .i64 (d : Int)] 69))) := ⟨HI.out.kept HP.out GA.out (HI.out.mm.kept (World.grownBy_alloc _ _ none) (by simp))⟩
  have IAd := Aside0.mk (IA.out.below HP.out ((Below.refl S (w.alloc (.cells #[.int .i64 (u : Int), .int .i64 (d : Int)] 69))).drew))
  have GAd : Aside0 ((w.alloc (.cells #[.int .i64 (u : Int), .int .i64 (d : Int)] 69)).grownBy (w.alloc (.cells #[.int .i64 (u : Int), .int .i64 (d : Int)] 69)).drew (some p.m)) := ⟨grown_drewN (World.grownBy.refl _ _) 1⟩
  have c5d : (w.alloc (.cells #[.int .i64 (u : Int), .int .i64 (d : Int)] 69)).drew.cell? ⟨p.p5, 0, none⟩ = some (.func (.func 94) #[] p.lb) := c5'
  have H1 : ∀ W, Aside0 (OnI 94 p F W) → Calls Try.prog 94 (#[.int .i64 (IntKind.i64.wrap ((u : Int) + 1)), .int .i64 (d : Int)] ++ p.lb) W fun e w' => e = .returned (.int .i64 (F ((u : Int) + 1) d)) ∧ Aside0 (OnI 94 p F w') ∧ Aside0 (W.grownBy w' (some p.m)) := fun W hW => by
    have := ih.out (u + 1) d W (by omega) (by omega) (by omega) hW.out
    rw [Int.natCast_add, Int.natCast_one] at this
    rw [w41 u (by omega)]
    exact this.mono (fun e w' h => ⟨h.1, ⟨h.2.1⟩, ⟨h.2.2⟩⟩)
  have H2 : ∀ W, Aside0 (OnI 94 p F W) → Calls Try.prog 94 (#[.int .i64 (u : Int), .int .i64 (IntKind.i64.wrap ((d : Int) + 1))] ++ p.lb) W fun e w' => e = .returned (.int .i64 (F (u : Int) ((d : Int) + 1))) ∧ Aside0 (OnI 94 p F w') ∧ Aside0 (W.grownBy w' (some p.m)) := fun W hW => by
    have := ih.out u (d + 1) W (by omega) (by omega) (by omega) hW.out
    rw [Int.natCast_add, Int.natCast_one] at this
    rw [w41 d (by omega)]
    exact this.mono (fun e w' h => ⟨h.1, ⟨h.2.1⟩, ⟨h.2.2⟩⟩)
  have HH1 := Aside0.mk H1
  have HH2 := Aside0.mk H2
  clear H1 H2
  have hs : wrap64 (F ((u : Int) + 1) d + F u ((d : Int) + 1)) = F u d := by
    have h1 := hF.out.nn u d
    have h2 := hF.out.le u d
    rw [← he]; unfold wrap64; omega
  have hv : plainElem (H := Unit) Try.prog 3 (.int .i64 (IntKind.i64.wrap (F ((u : Int) + 1) d + F u ((d : Int) + 1)))) = some (.lit (.int .i64 (F u d)), []) := by
    have h1 := hF.out.nn u d
    have h2 := hF.out.le u d
    rw [show IntKind.i64.wrap (F ((u : Int) + 1) d + F u ((d : Int) + 1)) = F u d from by rw [← he, IntKind.wrap_i64]; omega]
    exact plainElem_int Try.underlying3 (WalkArith.wf_i64 (by omega))
  have HV := Aside0.mk hv
  clear hv
  have k0 := cell_one_two w (.int .i64 (u : Int)) (.int .i64 (d : Int)) 69
  have HK0 := Aside0.mk k0
  have HS := Aside0.mk hs
  clear k0 hs he
  go_enter Try.func94, Try.ntmps94
  go_wp2_with (first | (at_lookup; refine wpList_lookup_own_ok_int _ rfl _ _ 68 rfl 69 3 .i64 lawK Try.underlying68 Try.underlying3 (zeroE _) p.m _ D rfl (hD.out.alloc _) _ _ rfl hkl.out ?_; intro c hat hwc))
  clear hat hwc c0 c1 c2 c3 c4'
  clear hm0 hm1 h1b h1c h2b h2c e1b e2b h3b h3c
  go_region_held3 (fun w' => w'.cell? ⟨p.p5, 0, none⟩ = some (.func (.func 94) #[] p.lb) ∧ Aside0 (OnI 94 p F w') ∧ Aside0 ((w.alloc (.cells #[.int .i64 (u : Int), .int .i64 (d : Int)] 69)).grownBy w' (some p.m))) (first | with_reducible exact ⟨c5d, IAd, GAd⟩ | exact ⟨HJ2.out.c5, HJ2, HQ2⟩ | exact ⟨HJ.out.c5, HJ, HQ⟩) (first | (go_at_call 94; refine (HH1.out _ IAd).mono ?_; clear HH1; rintro e w1 ⟨rfl, HJ, HGJ⟩; have HQ := Aside0.mk (grown_trans GAd.out HGJ.out); clear IAd GAd) | (go_at_call 94; refine (HH2.out _ HJ).mono ?_; rintro e w2 ⟨rfl, HJ2, HGJ2⟩; have HQ2 := Aside0.mk (grown_trans HQ.out HGJ2.out); clear HJ HGJ HQ))
  have b4 := HJ2.out.c4
  have hne : some w.heap.size ≠ some p.m := fun e => by have := HI.out.mm.lt; have := Option.some.inj e; omega
  have b0 : w2.cell? ⟨w.heap.size, 0, none⟩ = some (.int .i64 (u : Int)) := cell_grown HQ2.out HK0.out.1 hne
  have b1 : w2.cell? ⟨w.heap.size, 1, none⟩ = some (.int .i64 (d : Int)) := cell_grown HQ2.out HK0.out.2 hne
  obtain ⟨D2, hD2', hG2'⟩ := HJ2.out.mm
  have hD2 := Aside0.mk hD2'
  have hG2 := Aside0.mk hG2'
  have hn2 : Maps.size D2 < maxLen := Nat.lt_of_le_of_lt (Good.size lawK hD2' hG2') (by unfold maxLen; omega)
  clear hD2' hG2' hne
  clear c5' c5d
  go_wp2_with (first | (at_mapUpdate; refine wpList_mapUpdate_own _ rfl _ _ _ 68 rfl 69 3 lawK Try.underlying68 _ p.m _ D2 rfl hD2.out hn2 _ _ kl rfl rfl hkl.out _ [] HV.out ?_; intro w3 hown3 hg3))
  go_ret
  have hgg := grown_trans (grown_trans GA.out HQ2.out) hg3
  exact ⟨by show Ending.returned (.int .i64 (wrap64 (F ((u : Int) + 1) d + F u ((d : Int) + 1)))) = _; rw [HS.out], HJ2.out.kept HP.out hg3 (Memo.put hown3 (hG2.out.put (hD2.out.isMap) (by omega) (by omega) hkl.out)), hgg⟩

set_option maxHeartbeats 8000000 in
set_option maxRecDepth 100000 in
theorem onward2.hit2b (p : OnP) (S : Nat) (HP : Aside0 (p.Ok S)) (F : Int → Int → Int) (hF : Aside0 (OnF (fun u d => u + d > 0 ∧ u - p.v2 * d < p.v3) p.v0 p.v1 F)) (n : Nat) (ih : Aside0 (∀ (u d : Nat) (w : World), u < 42 → d < 42 → 82 - u - d < n → OnI 94 p F w →
    Calls Try.prog 94 (#[.int .i64 u, .int .i64 d] ++ p.lb) w fun e w' => e = .returned (.int .i64 (F u d)) ∧ OnI 94 p F w' ∧ w.grownBy w' (some p.m))) (u d : Nat) (w : World) (hu : u < 41) (hd : d < 41) (hn : 82 - u - d < n + 1) (HI : Aside0 (OnI 94 p F w))
    (he : F u d = F (u + 1) d + F u (d + 1))
    (hm0 : 0 ≤ p.v2 * (d : Int)) (hm1 : p.v2 * (d : Int) ≤ 205)
    (h1b : decide ((u : Int) > p.v0) = false) (h1c : decide (p.v0 < (u : Int)) = false) (h2b : decide ((d : Int) > p.v1) = false) (h2c : decide (p.v1 < (d : Int)) = false) (e1b : ((u : Int) == p.v0) = false) (h3b : decide ((u : Int) + d > 0) = false) (h3c : decide (0 < (u : Int) + d) = false)
    (kl : Lit) (hkl : Aside0 (keyOf Try.prog 69 (kv u d) = some kl)) (D : DataW Unit) (hD : Aside0 (w.ownsMap Try.prog 69 (plainElem Try.prog 3) p.m (Maps.size D) D)) (hG : Aside0 (Good Try.prog 69 F D)) (hh : Maps.has D kl = true) :
    Calls Try.prog 94 #[.int .i64 u, .int .i64 d, .pointer (some ⟨p.p0, 0, none⟩), .pointer (some ⟨p.p1, 0, none⟩), .pointer (some ⟨p.p2, 0, none⟩), .pointer (some ⟨p.p3, 0, none⟩), .pointer (some ⟨p.p4, 0, none⟩), .pointer (some ⟨p.p5, 0, none⟩)] w fun e w' => e = .returned (.int .i64 (F u d)) ∧ OnI 94 p F w' ∧ w.grownBy w' (some p.m) := by
  have c0 := HI.out.c0; have c1 := HI.out.c1; have c2 := HI.out.c2; have c3 := HI.out.c3; have c4 := HI.out.c4; have c5 := HI.out.c5
  have c4' : (w.alloc (.cells #[.int .i64 (u : Int), .int .i64 (d : Int)] 69)).cell? ⟨p.p4, 0, none⟩ = some (.map (some p.m)) := (World.cell?_alloc_past _ _ _ (World.block_lt_of_cell? w _ c4)).trans c4
  have c5' : (w.alloc (.cells #[.int .i64 (u : Int), .int .i64 (d : Int)] 69)).cell? ⟨p.p5, 0, none⟩ = some (.func (.func 94) #[] p.lb) := (World.cell?_alloc_past _ _ _ (World.block_lt_of_cell? w _ c5)).trans c5
  clear c4 c5
  have eg := eg94
  have GA : Aside0 (w.grownBy (w.alloc (.cells #[.int .i64 (u : Int), .int .i64 (d : Int)] 69)) (some p.m)) := ⟨World.grownBy_alloc _ _ _⟩
  have IA : Aside0 (OnI 94 p F (w.alloc (.cells #[.int .i64 (u : Int), .int .i64 (d : Int)] 69))) := ⟨HI.out.kept HP.out GA.out (HI.out.mm.kept (World.grownBy_alloc _ _ none) (by simp))⟩
  clear he
  go_enter Try.func94, Try.ntmps94
  go_wp2_with (first | (at_lookup; refine wpList_lookup_own_ok_int _ rfl _ _ 68 rfl 69 3 .i64 lawK Try.underlying68 Try.underlying3 (zeroE _) p.m _ D rfl (hD.out.alloc _) _ _ rfl hkl.out ?_; intro c hat hwc))
  go_ret
  have hc := hG.out.hit lawK hkl.out hh hat
  exact ⟨by show Ending.returned (.int .i64 c) = _; rw [hc], IA.out, GA.out⟩

set_option maxHeartbeats 8000000 in
set_option maxRecDepth 100000 in
theorem onward2.miss2b (p : OnP) (S : Nat) (HP : Aside0 (p.Ok S)) (F : Int → Int → Int) (hF : Aside0 (OnF (fun u d => u + d > 0 ∧ u - p.v2 * d < p.v3) p.v0 p.v1 F)) (n : Nat) (ih : Aside0 (∀ (u d : Nat) (w : World), u < 42 → d < 42 → 82 - u - d < n → OnI 94 p F w →
    Calls Try.prog 94 (#[.int .i64 u, .int .i64 d] ++ p.lb) w fun e w' => e = .returned (.int .i64 (F u d)) ∧ OnI 94 p F w' ∧ w.grownBy w' (some p.m))) (u d : Nat) (w : World) (hu : u < 41) (hd : d < 41) (hn : 82 - u - d < n + 1) (HI : Aside0 (OnI 94 p F w))
    (he : F u d = F (u + 1) d + F u (d + 1))
    (hm0 : 0 ≤ p.v2 * (d : Int)) (hm1 : p.v2 * (d : Int) ≤ 205)
    (h1b : decide ((u : Int) > p.v0) = false) (h1c : decide (p.v0 < (u : Int)) = false) (h2b : decide ((d : Int) > p.v1) = false) (h2c : decide (p.v1 < (d : Int)) = false) (e1b : ((u : Int) == p.v0) = false) (h3b : decide ((u : Int) + d > 0) = false) (h3c : decide (0 < (u : Int) + d) = false)
    (kl : Lit) (hkl : Aside0 (keyOf Try.prog 69 (kv u d) = some kl)) (D : DataW Unit) (hD : Aside0 (w.ownsMap Try.prog 69 (plainElem Try.prog 3) p.m (Maps.size D) D)) (hG : Aside0 (Good Try.prog 69 F D)) (hh : Maps.has D kl = false) :
    Calls Try.prog 94 #[.int .i64 u, .int .i64 d, .pointer (some ⟨p.p0, 0, none⟩), .pointer (some ⟨p.p1, 0, none⟩), .pointer (some ⟨p.p2, 0, none⟩), .pointer (some ⟨p.p3, 0, none⟩), .pointer (some ⟨p.p4, 0, none⟩), .pointer (some ⟨p.p5, 0, none⟩)] w fun e w' => e = .returned (.int .i64 (F u d)) ∧ OnI 94 p F w' ∧ w.grownBy w' (some p.m) := by
  have c0 := HI.out.c0; have c1 := HI.out.c1; have c2 := HI.out.c2; have c3 := HI.out.c3; have c4 := HI.out.c4; have c5 := HI.out.c5
  have c4' : (w.alloc (.cells #[.int .i64 (u : Int), .int .i64 (d : Int)] 69)).cell? ⟨p.p4, 0, none⟩ = some (.map (some p.m)) := (World.cell?_alloc_past _ _ _ (World.block_lt_of_cell? w _ c4)).trans c4
  have c5' : (w.alloc (.cells #[.int .i64 (u : Int), .int .i64 (d : Int)] 69)).cell? ⟨p.p5, 0, none⟩ = some (.func (.func 94) #[] p.lb) := (World.cell?_alloc_past _ _ _ (World.block_lt_of_cell? w _ c5)).trans c5
  clear c4 c5
  have eg := eg94
  have GA : Aside0 (w.grownBy (w.alloc (.cells #[.int .i64 (u : Int), .int .i64 (d : Int)] 69)) (some p.m)) := ⟨World.grownBy_alloc _ _ _⟩
  have IA : Aside0 (OnI 94 p F (w.alloc (.cells #[.int .i64 (u : Int), .int .i64 (d : Int)] 69))) := ⟨HI.out.kept HP.out GA.out (HI.out.mm.kept (World.grownBy_alloc _ _ none) (by simp))⟩
  have IAd := Aside0.mk (IA.out.below HP.out ((Below.refl S (w.alloc (.cells #[.int .i64 (u : Int), .int .i64 (d : Int)] 69))).drew))
  have GAd : Aside0 ((w.alloc (.cells #[.int .i64 (u : Int), .int .i64 (d : Int)] 69)).grownBy (w.alloc (.cells #[.int .i64 (u : Int), .int .i64 (d : Int)] 69)).drew (some p.m)) := ⟨grown_drewN (World.grownBy.refl _ _) 1⟩
  have c5d : (w.alloc (.cells #[.int .i64 (u : Int), .int .i64 (d : Int)] 69)).drew.cell? ⟨p.p5, 0, none⟩ = some (.func (.func 94) #[] p.lb) := c5'
  have H1 : ∀ W, Aside0 (OnI 94 p F W) → Calls Try.prog 94 (#[.int .i64 (IntKind.i64.wrap ((u : Int) + 1)), .int .i64 (d : Int)] ++ p.lb) W fun e w' => e = .returned (.int .i64 (F ((u : Int) + 1) d)) ∧ Aside0 (OnI 94 p F w') ∧ Aside0 (W.grownBy w' (some p.m)) := fun W hW => by
    have := ih.out (u + 1) d W (by omega) (by omega) (by omega) hW.out
    rw [Int.natCast_add, Int.natCast_one] at this
    rw [w41 u (by omega)]
    exact this.mono (fun e w' h => ⟨h.1, ⟨h.2.1⟩, ⟨h.2.2⟩⟩)
  have H2 : ∀ W, Aside0 (OnI 94 p F W) → Calls Try.prog 94 (#[.int .i64 (u : Int), .int .i64 (IntKind.i64.wrap ((d : Int) + 1))] ++ p.lb) W fun e w' => e = .returned (.int .i64 (F (u : Int) ((d : Int) + 1))) ∧ Aside0 (OnI 94 p F w') ∧ Aside0 (W.grownBy w' (some p.m)) := fun W hW => by
    have := ih.out u (d + 1) W (by omega) (by omega) (by omega) hW.out
    rw [Int.natCast_add, Int.natCast_one] at this
    rw [w41 d (by omega)]
    exact this.mono (fun e w' h => ⟨h.1, ⟨h.2.1⟩, ⟨h.2.2⟩⟩)
  have HH1 := Aside0.mk H1
  have HH2 := Aside0.mk H2
  clear H1 H2
  have hs : wrap64 (F ((u : Int) + 1) d + F u ((d : Int) + 1)) = F u d := by
    have h1 := hF.out.nn u d
    have h2 := hF.out.le u d
    rw [← he]; unfold wrap64; omega
  have hv : plainElem (H := Unit) Try.prog 3 (.int .i64 (IntKind.i64.wrap (F ((u : Int) + 1) d + F u ((d : Int) + 1)))) = some (.lit (.int .i64 (F u d)), []) := by
    have h1 := hF.out.nn u d
    have h2 := hF.out.le u d
    rw [show IntKind.i64.wrap (F ((u : Int) + 1) d + F u ((d : Int) + 1)) = F u d from by rw [← he, IntKind.wrap_i64]; omega]
    exact plainElem_int Try.underlying3 (WalkArith.wf_i64 (by omega))
  have HV := Aside0.mk hv
  clear hv
  have k0 := cell_one_two w (.int .i64 (u : Int)) (.int .i64 (d : Int)) 69
  have HK0 := Aside0.mk k0
  have HS := Aside0.mk hs
  clear k0 hs he
  go_enter Try.func94, Try.ntmps94
  go_wp2_with (first | (at_lookup; refine wpList_lookup_own_ok_int _ rfl _ _ 68 rfl 69 3 .i64 lawK Try.underlying68 Try.underlying3 (zeroE _) p.m _ D rfl (hD.out.alloc _) _ _ rfl hkl.out ?_; intro c hat hwc))
  clear hat hwc c0 c1 c2 c3 c4'
  clear hm0 hm1 h1b h1c h2b h2c e1b h3b h3c
  go_region_held3 (fun w' => w'.cell? ⟨p.p5, 0, none⟩ = some (.func (.func 94) #[] p.lb) ∧ Aside0 (OnI 94 p F w') ∧ Aside0 ((w.alloc (.cells #[.int .i64 (u : Int), .int .i64 (d : Int)] 69)).grownBy w' (some p.m))) (first | with_reducible exact ⟨c5d, IAd, GAd⟩ | exact ⟨HJ2.out.c5, HJ2, HQ2⟩ | exact ⟨HJ.out.c5, HJ, HQ⟩) (first | (go_at_call 94; refine (HH1.out _ IAd).mono ?_; clear HH1; rintro e w1 ⟨rfl, HJ, HGJ⟩; have HQ := Aside0.mk (grown_trans GAd.out HGJ.out); clear IAd GAd) | (go_at_call 94; refine (HH2.out _ HJ).mono ?_; rintro e w2 ⟨rfl, HJ2, HGJ2⟩; have HQ2 := Aside0.mk (grown_trans HQ.out HGJ2.out); clear HJ HGJ HQ))
  have b4 := HJ2.out.c4
  have hne : some w.heap.size ≠ some p.m := fun e => by have := HI.out.mm.lt; have := Option.some.inj e; omega
  have b0 : w2.cell? ⟨w.heap.size, 0, none⟩ = some (.int .i64 (u : Int)) := cell_grown HQ2.out HK0.out.1 hne
  have b1 : w2.cell? ⟨w.heap.size, 1, none⟩ = some (.int .i64 (d : Int)) := cell_grown HQ2.out HK0.out.2 hne
  obtain ⟨D2, hD2', hG2'⟩ := HJ2.out.mm
  have hD2 := Aside0.mk hD2'
  have hG2 := Aside0.mk hG2'
  have hn2 : Maps.size D2 < maxLen := Nat.lt_of_le_of_lt (Good.size lawK hD2' hG2') (by unfold maxLen; omega)
  clear hD2' hG2' hne
  clear c5' c5d
  go_wp2_with (first | (at_mapUpdate; refine wpList_mapUpdate_own _ rfl _ _ _ 68 rfl 69 3 lawK Try.underlying68 _ p.m _ D2 rfl hD2.out hn2 _ _ kl rfl rfl hkl.out _ [] HV.out ?_; intro w3 hown3 hg3))
  go_ret
  have hgg := grown_trans (grown_trans GA.out HQ2.out) hg3
  exact ⟨by show Ending.returned (.int .i64 (wrap64 (F ((u : Int) + 1) d + F u ((d : Int) + 1)))) = _; rw [HS.out], HJ2.out.kept HP.out hg3 (Memo.put hown3 (hG2.out.put (hD2.out.isMap) (by omega) (by omega) hkl.out)), hgg⟩

set_option maxHeartbeats 8000000 in
set_option maxRecDepth 100000 in
theorem onward2.calls (p : OnP) (S : Nat) (hp : p.Ok S) (F : Int → Int → Int) (hF : OnF (fun u d => u + d > 0 ∧ u - p.v2 * d < p.v3) p.v0 p.v1 F) (ha : 0 ≤ p.v0 ∧ p.v0 ≤ 40) (hb : 0 ≤ p.v1 ∧ p.v1 ≤ 40) (hk : 0 ≤ p.v2 ∧ p.v2 ≤ 5) : ∀ (n : Nat) (u d : Nat) (w : World), u < 42 → d < 42 → 82 - u - d < n → OnI 94 p F w →
    Calls Try.prog 94 (#[.int .i64 u, .int .i64 d] ++ p.lb) w fun e w' => e = .returned (.int .i64 (F u d)) ∧ OnI 94 p F w' ∧ w.grownBy w' (some p.m) := by
  intro n
  induction n with
  | zero => intro u d w hu hd hn; omega
  | succ n ih =>
    intro u d w hu hd hn hI
    have he := hF.eq u d (by omega) (by omega) (by omega) (by omega)
    show Calls Try.prog 94 #[.int .i64 u, .int .i64 d, .pointer (some ⟨p.p0, 0, none⟩), .pointer (some ⟨p.p1, 0, none⟩), .pointer (some ⟨p.p2, 0, none⟩), .pointer (some ⟨p.p3, 0, none⟩), .pointer (some ⟨p.p4, 0, none⟩), .pointer (some ⟨p.p5, 0, none⟩)] w _
    have c0 := hI.c0; have c1 := hI.c1; have c2 := hI.c2; have c3 := hI.c3; have c4 := hI.c4; have c5 := hI.c5
    have HI := Aside0.mk hI
    have HP := Aside0.mk hp
    clear hI hp
    have hm0 : 0 ≤ p.v2 * (d : Int) := Int.mul_nonneg hk.1 (by omega)
    have hm1 : p.v2 * (d : Int) ≤ 5 * 41 := Int.mul_le_mul hk.2 (by omega) (by omega) (by omega)
    by_cases h1 : (u : Int) > p.v0
    · rw [if_pos (.inl h1)] at he
      have h1b : decide ((u : Int) > p.v0) = true := decide_eq_true h1
      have h1c : decide (p.v0 < (u : Int)) = true := decide_eq_true h1
      rw [he]
      go_enter Try.func94, Try.ntmps94
      go_wp2_with fail
      go_ret
      exact ⟨rfl, HI.out, World.grownBy.refl _ _⟩
    · have h1b : decide ((u : Int) > p.v0) = false := decide_eq_false h1
      have h1c : decide (p.v0 < (u : Int)) = false := decide_eq_false h1
      by_cases h2 : (d : Int) > p.v1
      · rw [if_pos (.inr (.inl h2))] at he
        have h2b : decide ((d : Int) > p.v1) = true := decide_eq_true h2
        have h2c : decide (p.v1 < (d : Int)) = true := decide_eq_true h2
        rw [he]
        go_enter Try.func94, Try.ntmps94
        go_wp2_with fail
        go_ret
        exact ⟨rfl, HI.out, World.grownBy.refl _ _⟩
      · have h2b : decide ((d : Int) > p.v1) = false := decide_eq_false h2
        have h2c : decide (p.v1 < (d : Int)) = false := decide_eq_false h2
        by_cases h3 : (u : Int) + d > 0
        · have h3b : decide ((u : Int) + d > 0) = true := decide_eq_true h3
          have h3c : decide (0 < (u : Int) + d) = true := decide_eq_true h3
          by_cases h4 : (u : Int) - p.v2 * d < p.v3
          · have h4b : decide ((u : Int) - p.v2 * d < p.v3) = true := decide_eq_true h4
            rw [if_pos (.inr (.inr ⟨h3, h4⟩))] at he
            rw [he]
            go_enter Try.func94, Try.ntmps94
            go_wp2_with fail
            go_ret
            exact ⟨rfl, HI.out, World.grownBy.refl _ _⟩
          · have h4b : decide ((u : Int) - p.v2 * d < p.v3) = false := decide_eq_false h4
            rw [if_neg (by rintro (h | h | h) <;> first | exact h1 h | exact h2 h | exact h4 h.2)] at he
            have hlu : (u : Int) ≤ p.v0 := by omega
            have hld : (d : Int) ≤ p.v1 := by omega
            obtain ⟨kl, hkl'⟩ := keyK u d hu hd
            obtain ⟨D, hD', hG'⟩ := HI.out.mm
            by_cases e0 : (u : Int) = p.v0 ∧ (d : Int) = p.v1
            · rw [if_pos e0] at he
              have e1b : ((u : Int) == p.v0) = true := by simpa using e0.1
              have e2b : ((d : Int) == p.v1) = true := by simpa using e0.2
              rw [he]
              clear he e0 hD' hG' hkl' hlu hld h1 h2 h3 h4
              go_enter Try.func94, Try.ntmps94
              go_wp2_with (first | fail)
              go_ret
              exact ⟨rfl, HI.out, World.grownBy.refl _ _⟩
            · rw [if_neg e0] at he
              by_cases e1 : (u : Int) = p.v0
              · have e1b : ((u : Int) == p.v0) = true := by simpa using e1
                have e2b : ((d : Int) == p.v1) = false := by simpa using (fun e => e0 ⟨e1, e⟩)
                cases hh : Maps.has D kl with
                | true => exact onward2.hit1a p S HP F ⟨hF⟩ n ⟨ih⟩ u d w (by omega) (by omega) hn HI he hm0 hm1 h1b h1c h2b h2c e1b e2b h3b h3c h4b kl ⟨hkl'⟩ D ⟨hD'⟩ ⟨hG'⟩ hh
                | false => exact onward2.miss1a p S HP F ⟨hF⟩ n ⟨ih⟩ u d w (by omega) (by omega) hn HI he hm0 hm1 h1b h1c h2b h2c e1b e2b h3b h3c h4b kl ⟨hkl'⟩ D ⟨hD'⟩ ⟨hG'⟩ hh
              · have e1b : ((u : Int) == p.v0) = false := by simpa using e1
                cases hh : Maps.has D kl with
                | true => exact onward2.hit1b p S HP F ⟨hF⟩ n ⟨ih⟩ u d w (by omega) (by omega) hn HI he hm0 hm1 h1b h1c h2b h2c e1b h3b h3c h4b kl ⟨hkl'⟩ D ⟨hD'⟩ ⟨hG'⟩ hh
                | false => exact onward2.miss1b p S HP F ⟨hF⟩ n ⟨ih⟩ u d w (by omega) (by omega) hn HI he hm0 hm1 h1b h1c h2b h2c e1b h3b h3c h4b kl ⟨hkl'⟩ D ⟨hD'⟩ ⟨hG'⟩ hh
        · have h3b : decide ((u : Int) + d > 0) = false := decide_eq_false h3
          have h3c : decide (0 < (u : Int) + d) = false := decide_eq_false h3
          rw [if_neg (by rintro (h | h | h) <;> first | exact h1 h | exact h2 h | exact h3 h.1)] at he
          have hlu : (u : Int) ≤ p.v0 := by omega
          have hld : (d : Int) ≤ p.v1 := by omega
          obtain ⟨kl, hkl'⟩ := keyK u d hu hd
          obtain ⟨D, hD', hG'⟩ := HI.out.mm
          by_cases e0 : (u : Int) = p.v0 ∧ (d : Int) = p.v1
          · rw [if_pos e0] at he
            have e1b : ((u : Int) == p.v0) = true := by simpa using e0.1
            have e2b : ((d : Int) == p.v1) = true := by simpa using e0.2
            rw [he]
            clear he e0 hD' hG' hkl' hlu hld h1 h2 h3
            go_enter Try.func94, Try.ntmps94
            go_wp2_with (first | fail)
            go_ret
            exact ⟨rfl, HI.out, World.grownBy.refl _ _⟩
          · rw [if_neg e0] at he
            by_cases e1 : (u : Int) = p.v0
            · have e1b : ((u : Int) == p.v0) = true := by simpa using e1
              have e2b : ((d : Int) == p.v1) = false := by simpa using (fun e => e0 ⟨e1, e⟩)
              cases hh : Maps.has D kl with
              | true => exact onward2.hit2a p S HP F ⟨hF⟩ n ⟨ih⟩ u d w (by omega) (by omega) hn HI he hm0 hm1 h1b h1c h2b h2c e1b e2b h3b h3c kl ⟨hkl'⟩ D ⟨hD'⟩ ⟨hG'⟩ hh
              | false => exact onward2.miss2a p S HP F ⟨hF⟩ n ⟨ih⟩ u d w (by omega) (by omega) hn HI he hm0 hm1 h1b h1c h2b h2c e1b e2b h3b h3c kl ⟨hkl'⟩ D ⟨hD'⟩ ⟨hG'⟩ hh
            · have e1b : ((u : Int) == p.v0) = false := by simpa using e1
              cases hh : Maps.has D kl with
              | true => exact onward2.hit2b p S HP F ⟨hF⟩ n ⟨ih⟩ u d w (by omega) (by omega) hn HI he hm0 hm1 h1b h1c h2b h2c e1b h3b h3c kl ⟨hkl'⟩ D ⟨hD'⟩ ⟨hG'⟩ hh
              | false => exact onward2.miss2b p S HP F ⟨hF⟩ n ⟨ih⟩ u d w (by omega) (by omega) hn HI he hm0 hm1 h1b h1c h2b h2c e1b h3b h3c kl ⟨hkl'⟩ D ⟨hD'⟩ ⟨hG'⟩ hh

set_option maxHeartbeats 8000000 in
set_option maxRecDepth 100000 in
theorem onward.calls (a b c d : Int) (w : World) :
    Calls Try.prog 68 #[.int .i64 a, .int .i64 b, .int .i64 c, .int .i64 d] w fun e w' => ∃ p : OnP, e = .returned (.func (.func 94) #[] p.lb) ∧ p.v0 = a ∧ p.v1 = b ∧ p.v2 = c ∧ p.v3 = d ∧ p.Ok w'.heap.size ∧ w.heap.size ≤ p.m ∧ Below w.heap.size w w' ∧ ∀ F, OnI 94 p F w' := by
  have hmm := @run_makeMap Try.prog
  have hmf : ∀ (fn : Fn) (first cap : Array Value) (w : World), (Instr.makeFunc fn first cap).run Try.prog w = .ok (.func fn first cap) w := fun _ _ _ _ => rfl
  go_enter Try.func68, Try.ntmps68
  go_wp2_with fail
  go_ret
  have e4 : ((((w.alloc (.cells #[.int .i64 a] 3)).alloc (.cells #[.int .i64 b] 3)).alloc (.cells #[.int .i64 c] 3)).alloc (.cells #[.int .i64 d] 3)).heap.size = w.heap.size + 1 + 1 + 1 + 1 := by simp
  refine ⟨⟨w.heap.size, w.heap.size + 1, w.heap.size + 1 + 1, w.heap.size + 1 + 1 + 1, w.heap.size + 1 + 1 + 1 + 1 + 1, w.heap.size + 1 + 1 + 1 + 1 + 1 + 1, w.heap.size + 1 + 1 + 1 + 1, a, b, c, d⟩, rfl, rfl, rfl, rfl, rfl, ?_, ?_, ?_, fun F => ?_⟩
  · constructor <;> simp <;> omega
  · show w.heap.size ≤ w.heap.size + 1 + 1 + 1 + 1
    omega
  · repeat (first | exact Below.refl _ _ | apply below_alloc)
  · constructor
    case mm =>
      have h := Memo.made Try.prog 69 3 F ((((w.alloc (.cells #[.int .i64 a] 3)).alloc (.cells #[.int .i64 b] 3)).alloc (.cells #[.int .i64 c] 3)).alloc (.cells #[.int .i64 d] 3))
      rw [e4] at h
      exact (h.kept (World.grownBy_alloc _ _ none) (by simp)).kept (World.grownBy_alloc _ _ none) (by simp)
    all_goals repeat (first | exact World.cell?_alloc_at _ _ _ _ (by simp; done) | refine (World.cell?_alloc_past _ _ _ (by simp <;> omega)).trans ?_)
theorem onward.clos (p : OnP) (S : Nat) (hp : p.Ok S) (F : Int → Int → Int) (hF : OnF (fun u d => u + d > 0 ∧ u - p.v2 * d < p.v3) p.v0 p.v1 F) (ha : 0 ≤ p.v0 ∧ p.v0 ≤ 40) (hb : 0 ≤ p.v1 ∧ p.v1 ≤ 40) (hk : 0 ≤ p.v2 ∧ p.v2 ≤ 5) : Clos Try.prog 94 p.lb F S (some p.m) (OnI 94 p F) where
  eg := eg94
  call := fun W u d h1 h2 h3 h4 hI => by
    obtain ⟨u', rfl⟩ := Int.eq_ofNat_of_zero_le h1
    obtain ⟨d', rfl⟩ := Int.eq_ofNat_of_zero_le h3
    exact onward2.calls p S hp F hF ha hb hk 83 u' d' W (by omega) (by omega) (by omega) hI
  keep := fun W W' hI hb => hI.below hp hb
  turn := fun k hk => by cases hk; exact hp.sm
  nn := hF.nn
  le := hF.le
/-- In how many ways it goes on to (a, b), no step being out. -/
def wayG (out : Int → Int → Prop) [∀ u d, Decidable (out u d)] (a b : Int) : Nat → Int → Int → Int
  | 0, _, _ => 0
  | n + 1, u, d => if u > a ∨ d > b ∨ out u d then 0 else if u = a ∧ d = b then 1 else wayG out a b n (u + 1) d + wayG out a b n u (d + 1)
def wayF (out : Int → Int → Prop) [∀ u d, Decidable (out u d)] (a b u d : Int) : Int := if a + b ≤ 40 ∧ 0 ≤ u ∧ 0 ≤ d then wayG out a b (a + b + 1 - u - d).toNat u d else 0
theorem wayF_in (out : Int → Int → Prop) [∀ u d, Decidable (out u d)] {a b u d : Int} (h : a + b ≤ 40 ∧ 0 ≤ u ∧ 0 ≤ d) : wayF out a b u d = wayG out a b (a + b + 1 - u - d).toNat u d := if_pos h
theorem wayG_nn (out : Int → Int → Prop) [∀ u d, Decidable (out u d)] (a b : Int) : ∀ (n : Nat) (u d : Int), 0 ≤ wayG out a b n u d
  | 0, _, _ => Int.le_refl _
  | n + 1, u, d => by
    unfold wayG
    have h1 := wayG_nn out a b n (u + 1) d
    have h2 := wayG_nn out a b n u (d + 1)
    split
    · exact Int.le_refl _
    · split <;> omega
theorem pow_mono2 : ∀ (m n : Nat), m ≤ n → (2 : Int) ^ m ≤ 2 ^ n := by
  intro m n h
  have := Nat.pow_le_pow_right (show 0 < 2 by decide) h
  exact_mod_cast this
theorem wayG_le (out : Int → Int → Prop) [∀ u d, Decidable (out u d)] (a b : Int) : ∀ (n : Nat) (u d : Int), wayG out a b n u d ≤ 2 ^ n
  | 0, _, _ => by simp [wayG]
  | n + 1, u, d => by
    unfold wayG
    have h1 := wayG_le out a b n (u + 1) d
    have h2 := wayG_le out a b n u (d + 1)
    have h3 : (1 : Int) ≤ 2 ^ n := by have := pow_mono2 0 n (Nat.zero_le _); simpa using this
    rw [Int.pow_succ]
    split
    · omega
    · split <;> omega
theorem wayF_on (out : Int → Int → Prop) [∀ u d, Decidable (out u d)] (a b : Int) (ha : 0 ≤ a) (hb : 0 ≤ b) (hab : a + b ≤ 40) : OnF out a b (wayF out a b) where
  nn := fun u d => by
    unfold wayF
    split
    · exact wayG_nn _ _ _ _ _ _
    · exact Int.le_refl _
  le := fun u d => by
    unfold wayF
    split
    · exact Int.le_trans (wayG_le out a b _ u d) (Int.le_trans (pow_mono2 _ 41 (by omega)) (by decide))
    · decide
  eq := fun u d h1 h2 h3 h4 => by
    by_cases ho : u > a ∨ d > b ∨ out u d
    · rw [if_pos ho]
      rw [wayF_in out ⟨hab, h1, h3⟩]
      cases h : (a + b + 1 - u - d).toNat with
      | zero => rfl
      | succ n => unfold wayG; rw [if_pos ho]
    · rw [if_neg ho]
      rw [wayF_in out (u := u) (d := d) ⟨hab, h1, h3⟩, wayF_in out (u := u + 1) (d := d) ⟨hab, by omega, h3⟩, wayF_in out (u := u) (d := d + 1) ⟨hab, h1, by omega⟩]
      have hu : ¬ u > a := fun h => ho (.inl h)
      have hd : ¬ d > b := fun h => ho (.inr (.inl h))
      obtain ⟨n, hn⟩ : ∃ n, (a + b + 1 - u - d).toNat = n + 1 := ⟨(a + b + 1 - u - d).toNat - 1, by omega⟩
      rw [hn, show (a + b + 1 - (u + 1) - d).toNat = n from by omega, show (a + b + 1 - u - (d + 1)).toNat = n from by omega]
      rw [wayG, if_neg ho]
theorem steps_of {a b : Int} (h : impl_areSteps.f a b = some true) : 0 ≤ a ∧ a ≤ 40 ∧ 0 ≤ b ∧ b ≤ 40 ∧ a + b ≤ 40 := by
  unfold impl_areSteps.f impl_in.f at h
  by_cases h1 : 0 ≤ a
  · by_cases h2 : a ≤ 40
    · by_cases h3 : 0 ≤ b
      · by_cases h4 : b ≤ 40
        · simp [h1, h2, h3, h4] at h
          unfold wrap64 at h
          omega
        · simp [h1, h2, h3, h4] at h
      · simp [h1, h2, h3] at h
    · simp [h1, h2] at h
  · simp [h1] at h
/-- How many ways lead on with leads no less than a least one. -/
def Onf (a b k l u d : Int) : Int := wayF (fun u d => u + d > 0 ∧ u - k * d < l) a b u d
theorem onward.clos2 (p : OnP) (S : Nat) (hok : p.Ok S) (a b k l : Int) (hP : p.v0 = a ∧ p.v1 = b ∧ p.v2 = k ∧ p.v3 = l) (hs : 0 ≤ a ∧ a ≤ 40 ∧ 0 ≤ b ∧ b ≤ 40 ∧ a + b ≤ 40) (hk : 0 ≤ k ∧ k ≤ 5) : Clos Try.prog 94 p.lb (Onf a b k l) S (some p.m) (OnI 94 p (Onf a b k l)) := by
  obtain ⟨rfl, rfl, rfl, rfl⟩ := hP
  exact onward.clos p S hok _ (wayF_on (fun u d => u + d > 0 ∧ u - p.v2 * d < p.v3) p.v0 p.v1 hs.1 hs.2.2.1 hs.2.2.2.2) (by omega) (by omega) hk
theorem votes_of {a b k : Int} (h : impl_areVotes.f a b k = some true) : (0 ≤ a ∧ a ≤ 40 ∧ 0 ≤ b ∧ b ≤ 40 ∧ a + b ≤ 40) ∧ (1 ≤ k ∧ k ≤ 5) := by
  unfold impl_areVotes.f at h
  cases hs : impl_areSteps.f a b with
  | none => rw [hs] at h; simp at h
  | some t =>
    rw [hs] at h
    cases t with
    | false => simp at h
    | true =>
      refine ⟨steps_of hs, ?_⟩
      unfold impl_in.f at h
      by_cases h1 : 1 ≤ k
      · by_cases h2 : k ≤ 5
        · exact ⟨h1, h2⟩
        · simp [h1, h2] at h
      · simp [h1] at h
/-- All texts, in the order of their ranks. -/
def AO (F : Int → Int → Int) (s most : Int) : List ByteArray × Bool := if F 0 0 > most then ([], false) else ((List.range (F 0 0).toNat).map (fun r : Nat => (TB F s (r : Int)).1), true)
set_option maxHeartbeats 8000000 in
set_option maxRecDepth 100000 in
theorem allOf.calls (g : Nat) (lb : Array Value) (F : Int → Int → Int) (m : Option Nat) (I : World → Prop) (s most : Int) (w : World) (hC : Clos Try.prog g lb F w.heap.size m I) (hI : I w) (h0 : 0 ≤ s) (h40 : s ≤ 40) (hm : most ≤ 1000) :
    Calls Try.prog 70 #[.int .i64 s, .int .i64 most, .func (.func g) #[] lb] w fun e w' => ∃ v : Value, e = .returned (.tuple #[v, .bool (AO F s most).2]) ∧ Kd.R Kd.string 9 w' w.heap.size (fun _ => True) v (AO F s most).1 ∧ I w' ∧ w.grownBy w' m := by
  have eg := hC.eg
  have n0 := hC.nn 0 0
  have HC := Aside0.mk hC
  have HI := Aside0.mk hI
  have HG0 := Aside0.mk (World.grownBy.refl w m)
  clear hC hI
  by_cases hc : F 0 0 > most
  · have hcb : decide (F 0 0 > most) = true := decide_eq_true hc
    have hcc : decide (most < F 0 0) = true := decide_eq_true hc
    have e1 : AO F s most = ([], false) := by unfold AO; rw [if_pos hc]
    rw [e1]
    go_enter Try.func70, Try.ntmps70
    go_wp2_with (first | (go_at_fn g; refine (HC.out.call _ 0 0 (by omega) (by omega) (by omega) (by omega) HI.out).mono ?_; rintro e w1 ⟨rfl, hI1, hg1⟩; have HI1 := Aside0.mk hI1; have HG1 := Aside0.mk hg1; clear hI1 hg1))
    go_ret2
    exact ⟨_, rfl, Kd.R_nil _ _ _ _ _, HI1.out, HG1.out⟩
  · have hcb : decide (F 0 0 > most) = false := decide_eq_false hc
    have hcc : decide (most < F 0 0) = false := decide_eq_false hc
    have e1 : AO F s most = ((List.range (F 0 0).toNat).map (fun r : Nat => (TB F s (r : Int)).1), true) := by unfold AO; rw [if_neg hc]
    rw [e1]
    have HN := Aside0.mk (show F 0 0 ≤ 1000 by omega)
    clear hc e1
    go_enter Try.func70, Try.ntmps70
    go_wp2_with (first | (go_at_fn g; refine (HC.out.call _ 0 0 (by omega) (by omega) (by omega) (by omega) HI.out).mono ?_; rintro e w1 ⟨rfl, hI1, hg1⟩; have HI1 := Aside0.mk hI1; have HG1 := Aside0.mk hg1; clear hI1 hg1 HI HG0) | (go_at_fn g; refine (HC.out.call _ 0 0 (by omega) (by omega) (by omega) (by omega) HI2.out).mono ?_; rintro e w3 ⟨rfl, hI3, hg3⟩; have HI3 := Aside0.mk hI3; have HG3 := Aside0.mk (grown_trans HG2.out hg3); have HO3 := Aside0.mk (R_turn HO2.out hg3 HC.out.turn); clear hI3 hg3 HI2 HG2 HO2) | ((with_reducible refine gate_dst (N := 16) rfl ?_); refine Kd.R_lit Kd.string _ 9 ?hg (N := 16) ?hd (xs := ([] : List ByteArray)) (inner := []) (ok := fun _ => True) (okp := fun _ => True) ?hr ?hp (fun _ hk => hk) trivial (Below.refl _ _) (Nat.le_refl _) (by simp) ?_; (case hd => rfl); (case hg => rfl); (case hr => first | (go_simp; done) | (go_simp; rfl)); (case hp => exact (Reps.none _ _)); intro v122 w7 ho8 hb hg_ hnew_; clear hg_ hnew_; have HO2 := Aside0.mk (Kd.R_lower ho8 (show w.heap.size ≤ _ from HG1.out.size)); have HG2 := Aside0.mk (grown_below HG1.out (hb.mono HG1.out.size)); have HI2 := Aside0.mk (HC.out.keep _ _ HI1.out (hb.mono HG1.out.size)); clear hb ho8 HI1 HG1))
    go_loopg [8, 19] (F 0 0).toNat (fun kq v8 v19 wr => ∃ i : Nat, v19 = .int .i64 i ∧ Aside0 ((i : Int) ≤ F 0 0) ∧ Aside0 (kq = (F 0 0).toNat - i) ∧ Aside0 (Kd.R Kd.string 9 wr w.heap.size (fun _ => True) v8 ((List.range i).map (fun r : Nat => (TB F s (r : Int)).1))) ∧ Aside0 (I wr) ∧ Aside0 (w.grownBy wr m))
    case atStart => exact ⟨0, rfl, ⟨n0⟩, ⟨by simp⟩, HO3, HI3, HG3⟩
    case round =>
      clear HO3 HI3 HG3
      obtain ⟨i, rfl, HX, HK, HR, HI, HG⟩ := hrel
      have hx := HX.out
      have hn := HN.out
      by_cases hlt : (i : Int) < F 0 0
      · have hltb : decide ((i : Int) < F 0 0) = true := decide_eq_true hlt
        have c0 := textBy.calls2 g lb F m I s i wr (HC.out.later HG.out.size) HI.out h0 h40
        have HT := Aside0.mk (show TB F s (i : Int) = ((TB F s (i : Int)).1, (TB F s (i : Int)).2) from rfl)
        go_wp2_with (first | (go_at_call 53; refine c0.mono ?_; clear c0; rintro e w1 ⟨rfl, hI1, hg1⟩; have HI1 := Aside0.mk hI1; have HG1 := Aside0.mk hg1; clear hI1 hg1) | ((with_reducible refine gate_builtin (b := .append) (xs := #[.tmp 29, .tmp 31]) rfl ?_); at_builtin; refine Kd.R_append Kd.string (w0 := w1) w.heap.size rfl (.tmp 29) (.tmp 31) 35 9 (.string ⟨#[]⟩) 16 rfl Try.underlying35 info9 rfl (by decide) (by omega) u8 ((List.range i).map (fun r : Nat => (TB F s (r : Int)).1)) (TB F s (i : Int)).1 [.string (TB F s (i : Int)).1] (fun _ => True) (fun _ => False) rfl rfl ?aP (fun _ hk => hk.elim) ?aF ?aO ?aB ?aS ?aL ?_; (case aP => exact rfl); (case aB => exact (Below.refl _ _)); (case aF => exact (fun _ _ => trivial)); (case aO => exact (R_turn HR.out HG1.out HC.out.turn)); (case aS => exact Nat.le_trans HG.out.size HG1.out.size); (case aL => have := HX.out; have := HN.out; rw [List.length_map, List.length_range]; omega); intro v126 w13 ho hb hg hat; have HR2 := Aside0.mk ho; have HI2 := Aside0.mk (HC.out.keep _ _ HI1.out hb); have HG2 := Aside0.mk (grown_below (grown_trans HG.out HG1.out) hb); clear ho hb hg hat))
        go_roundg ((F 0 0).toNat - (i + 1))
        case measure => have := HK.out; omega
        case rel => exact ⟨i + 1, by go_num, ⟨by omega⟩, ⟨rfl⟩, ⟨by rw [List.range_succ, List.map_append]; exact HR2.out⟩, HI2, HG2⟩
      · have hltb : decide ((i : Int) < F 0 0) = false := decide_eq_false hlt
        have he : i = (F 0 0).toNat := by omega
        have HE := Aside0.mk he
        clear he
        go_wp2
        go_ret2
        exact ⟨_, rfl, by rw [← HE.out]; exact HR.out, HI.out, HG.out⟩
def impl_AllAhead.f (a0 a1 a2 : Int) : Option (List ByteArray × Bool) := (impl_areVotes.f a0 a1 a2).bind fun t => if t = true then some (AO (Onf a0 a1 a2 1) (a0 + a1) 300) else some ([], false)
set_option maxHeartbeats 8000000 in
set_option maxRecDepth 100000 in
theorem impl_AllAhead.calls (a0 a1 a2 : Int) (r1 : List ByteArray) (r2 : Bool) (w : World) (h : impl_AllAhead.f a0 a1 a2 = some (r1, r2)) :
    Calls Try.prog 34 #[.int .i64 a0, .int .i64 a1, .int .i64 a2] w fun e w' => ∃ v0_ : Value, e = .returned (.tuple #[v0_, .bool r2]) ∧ Kd.R Kd.string 9 w' w.heap.size (fun _ => True) v0_ r1 ∧ Below w.heap.size w w' := by
  unfold impl_AllAhead.f at h
  replace h := Option.bind_eq_some_iff.mp h
  obtain ⟨t, At0, h⟩ := h
  have At := Aside0.mk At0
  cases t with
  | false =>
    clear At0
    simp only [Bool.false_eq_true, if_false, Option.some.injEq, Prod.mk.injEq] at h
    obtain ⟨rfl, rfl⟩ := h
    go_enter Try.func34, Try.ntmps34
    go_wp2_with (first | (go_at_call 67; refine (impl_areVotes.calls a0 a1 a2 false _ At.out).mono ?_; rintro e w' ⟨rfl, ⟨nd, rfl⟩⟩))
    go_ret2
    exact ⟨_, rfl, Kd.R_nil _ _ _ _ _, by repeat (first | exact Below.refl _ _ | apply pw_below_drewN)⟩
  | true =>
    have hv := votes_of At0
    clear At0
    simp only [if_true, Option.some.injEq] at h
    have hs := hv.1
    have HV := Aside0.mk hv
    have HR := Aside0.mk h
    clear h hv
    go_enter Try.func34, Try.ntmps34
    go_wp2_with (first | (go_at_call 67; refine (impl_areVotes.calls a0 a1 a2 true _ At.out).mono ?_; rintro e w' ⟨rfl, ⟨nd, rfl⟩⟩) | (go_at_call 68; refine (onward.calls a0 a1 a2 1 _).mono ?_; rintro e w1 ⟨p, rfl, h0, h1, h2, h3, hok, hm, hb, hI⟩; have HB1 := Aside0.mk (show Below w.heap.size w w1 from (below_dn _ _ _).trans hb); have HM := Aside0.mk (show w.heap.size ≤ p.m from hm); have HC := Aside0.mk (onward.clos2 p _ hok a0 a1 a2 1 ⟨h0, h1, h2, h3⟩ HV.out.1 (by have := HV.out.2; omega)); have HI := Aside0.mk (hI (Onf a0 a1 a2 1)); clear h0 h1 h2 h3 hok hm hb hI) | (go_at_call 70; refine (allOf.calls _ _ _ _ _ (a0 + a1) 300 _ HC.out HI.out (by have := HV.out.1; omega) (by have := HV.out.1; omega) (by omega)).mono ?_; rintro e w2 ⟨v2, rfl, hr2, hI2, hg2⟩; have HG2 := Aside0.mk hg2; have HR2 := Aside0.mk (Kd.R_lower hr2 HB1.out.size); clear hI2 hg2 hr2))
    go_ret2
    exact ⟨v2, by rw [HR.out]; rfl, by have h_ := HR2.out; rw [HR.out] at h_; exact h_, HB1.out.grown HG2.out HB1.out.size (fun k hk => by cases hk; exact HM.out)⟩

end Go.Proofs.Ytblofikjcmjaeaa.PFnExactAllAhead
