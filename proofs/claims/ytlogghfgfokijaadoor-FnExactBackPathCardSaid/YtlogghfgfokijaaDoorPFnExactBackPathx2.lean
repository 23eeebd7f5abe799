/- The walk of the statement FnExactBackPath: each Go function that it reaches does what the Lean function of its name says; printed by a program of this session. -/
import Derived.Test.YtlogghfgfokijaaDoorPFnExactBackPathx0
import Derived.Test.YtlogghfgfokijaaDoorPFnExactBackPathx1
namespace Go.Proofs.YtlogghfgfokijaaDoor.PFnExactBackPath
open Go.RowKit Go.Proofs.YtlogghfgfokijaaDoorW.PrintWords Go.Proofs.YtlogghfgfokijaaDoorW.PrintLast Go.Proofs.YtlogghfgfokijaaDoorW.PrintMore
attribute [local go_sem] max2_int min2_int max_two min_two max_three min_three max_four min_four   -- for this text's walks alone
set_option linter.unusedVariables false
set_option linter.unusedSimpArgs false

/-! ### impl_turned: function 12 -/
/-! ### sync.Once at a fresh Once: one goroutine -/
theorem disable_ (w : World) : (callFunc 54 #[]).run Tryd.prog w = .ok (.value (.tuple #[])) w := run_call_mark0 Tryd.func54 (by kernel_rfl) (by kernel_rfl) (by kernel_rfl) .disable (by kernel_rfl) w
theorem enable_ (w : World) : (callFunc 56 #[]).run Tryd.prog w = .ok (.value (.tuple #[])) w := run_call_mark0 Tryd.func56 (by kernel_rfl) (by kernel_rfl) (by kernel_rfl) .enable (by kernel_rfl) w
theorem acquire_ (a : Addr) (w : World) : (callFunc 57 #[.pointer (some a)]).run Tryd.prog w = .ok (.value (.tuple #[])) w := run_call_marked Tryd.func57 (by kernel_rfl) (by kernel_rfl) (by kernel_rfl) .acquire (by kernel_rfl) a w
theorem releaseMerge_ (a : Addr) (w : World) : (callFunc 59 #[.pointer (some a)]).run Tryd.prog w = .ok (.value (.tuple #[])) w := run_call_marked Tryd.func59 (by kernel_rfl) (by kernel_rfl) (by kernel_rfl) .releaseMerge (by kernel_rfl) a w
set_option maxHeartbeats 4000000 in
set_option maxRecDepth 100000 in
/-- '(*sync/atomic.Bool).Store(true)', entered as a deferred call. -/
theorem store_deferred (a : Addr) (x : Value) (u : FrameMode) (w : World) (hc : w.cell? a = some x) (hz : w.frozen? a = false) :
    CallsD Tryd.prog 40 #[.pointer (some a), .bool true] u w fun e u' w' => u' = u ∧ (e = .returned (.tuple #[]) ∧ w' = w.drew.setCell a (.int .u32 1)) := by
  have hc' : w.drew.cell? a = some x := by go_simp
  have hz' : w.drew.frozen? a = false := by go_simp
  have hst := run_call_store (P := Tryd.prog) Tryd.func49 (by kernel_rfl) (by kernel_rfl) (by kernel_rfl) (by kernel_rfl) (k := .u32) (y := 1) hc' hz'
  go_enter_d Tryd.func40, Tryd.ntmps40
  go_wp2
  go_region_calls
  all_goals (go_end0; exact ⟨rfl, rfl⟩)
set_option maxHeartbeats 4000000 in
set_option maxRecDepth 100000 in
/-- '(*sync.Mutex).Unlock', entered as a deferred call, the lock held and nobody waiting. -/
theorem unlock_deferred (a : Addr) (u : FrameMode) (w : World) (hc : w.cell? a = some (.int .i32 1)) (hz : w.frozen? a = false) :
    CallsD Tryd.prog 39 #[.pointer (some a)] u w fun e u' w' => u' = u ∧ (e = .returned (.tuple #[]) ∧ w' = w.setCell a (.int .i32 0)) := by
  have hd := disable_
  have he := enable_
  have hr := releaseMerge_
  have hadd := run_call_add (P := Tryd.prog) Tryd.func60 (by kernel_rfl) (by kernel_rfl) (by kernel_rfl) .i32 (by kernel_rfl) (y := -1) (s := 0) hc hz (by simp [go_sem]; rfl)
  have hcv := run_convert_to_unsafe (P := Tryd.prog) (src := 101) (dst := 105) Tryd.underlying101 Tryd.underlying105 (by kernel_rfl) hc
  go_enter_d Tryd.func39, Tryd.ntmps39
  go_wp2
  go_end0
  go_wp2
  go_end0
  exact ⟨rfl, rfl⟩
set_option maxHeartbeats 4000000 in
set_option maxRecDepth 100000 in
/-- '(*sync.Mutex).Lock', the lock free. -/
theorem lock_free (a : Addr) (w : World) (hc : w.cell? a = some (.int .i32 0)) (hz : w.frozen? a = false) :
    Calls Tryd.prog 38 #[.pointer (some a)] w fun e w' => e = .returned (.tuple #[]) ∧ w' = w.setCell a (.int .i32 1) := by
  have hd := disable_
  have he := enable_
  have ha := acquire_
  have hcas := run_call_cas_hit (P := Tryd.prog) Tryd.func55 (by kernel_rfl) (by kernel_rfl) (by kernel_rfl) .i32 (by kernel_rfl) (y := 1) hc hz
  have hc' : (w.setCell a (.int .i32 1)).cell? a = some (.int .i32 1) := World.cell?_setCell_same w a _ hc
  have hcv := run_convert_to_unsafe (P := Tryd.prog) (src := 101) (dst := 105) Tryd.underlying101 Tryd.underlying105 (by kernel_rfl) hc'
  go_enter Tryd.func38, Tryd.ntmps38
  go_wp2
  first | go_end0 | (simp only [Exit.inBlock, Exit.then]; refine bodyPost_ret (results_none rfl _ _ _) rfl ?_) | refine bodyPost_ret (results_none rfl _ _ _) rfl ?_
  go_wp2
  go_end0
  exact ⟨rfl, rfl⟩

/-! ### (*strings.Replacer).build (33), at U, D, D, U -/
theorem zeros73 : Tryd.zeroCells73.toList = encs (Value.int .u8) (List.replicate 256 (0 : Int)) := by kernel_rfl
theorem tab_new (w : World) (base : Nat) (hb : base ≤ w.heap.size) : Kd.R (Kd.int .u8) 73 (w.alloc (.cells Tryd.zeroCells73 73)) base (fun k => k = w.heap.size) (.slice (some ⟨w.heap.size, 0, none⟩) 256 256) (List.replicate 256 (0 : Int)) := by
  refine Kd.R_of_own ⟨by rw [← zeros73]; kernel_rfl, .inr ⟨w.heap.size, 256, Tryd.zeroCells73, by rw [List.length_replicate], hb, heap_alloc_new w _, by rw [List.length_replicate]; omega, by unfold maxLen; omega, by kernel_rfl, ?_⟩⟩ (fun k hk => by simpa [Value.ownBlock] using hk.symm)
  rw [← zeros73]
  have hl : Tryd.zeroCells73.toList.length = 256 := by kernel_rfl
  exact List.take_of_length_le (by rw [hl, List.length_replicate]; omega)
/-- The table, i places filled. -/
def tabs : Nat → List Int
  | 0 => List.replicate 256 0
  | i + 1 => (tabs i).set i (i : Int)
theorem tabs_len : ∀ i, (tabs i).length = 256
  | 0 => List.length_replicate
  | i + 1 => by rw [tabs, List.length_set, tabs_len i]
/-- The table of U and D exchanged. -/
def tabT : List Int := ((tabs 256).set 68 85).set 85 68
set_option maxHeartbeats 8000000 in
set_option maxRecDepth 100000 in
theorem build_calls (B g cap : Nat) (w : World) (hg : w.cell? ⟨B, 4, none⟩ = some (.slice (some ⟨g, 0, none⟩) 4 cap)) (h0 : w.cell? ⟨g, 0, none⟩ = some (.string ⟨#[85]⟩)) (h1 : w.cell? ⟨g, 1, none⟩ = some (.string ⟨#[68]⟩)) (h2 : w.cell? ⟨g, 2, none⟩ = some (.string ⟨#[68]⟩)) (h3 : w.cell? ⟨g, 3, none⟩ = some (.string ⟨#[85]⟩)) (hgl : g < w.heap.size) (hBl : B < w.heap.size) :
    Calls Tryd.prog 33 #[.pointer (some ⟨B, 0, none⟩)] w fun e w' => ∃ r, e = .returned (.iface 74 (.pointer (some ⟨r, 0, none⟩))) ∧ Kd.R (Kd.int .u8) 73 w' w.heap.size (fun _ => True) (.slice (some ⟨r, 0, none⟩) 256 256) tabT ∧ Below w.heap.size w w' := by
  have hsc : ∀ w : World, (storeCells ⟨w.heap.size, 0, none⟩ Tryd.zeroCells73.toList).run Tryd.prog (w.alloc (.cells Tryd.zeroCells73 73)) = .ok () (w.alloc (.cells Tryd.zeroCells73 73)) := fun w => run_storeCells_new w 73 _ _ (by kernel_rfl) rfl (by kernel_rfl)
  have hD : ∀ h, ((⟨#[68]⟩ : ByteArray)[0]'h).toNat = 68 := fun _ => rfl
  have hU : ∀ h, ((⟨#[85]⟩ : ByteArray)[0]'h).toNat = 85 := fun _ => rfl
  go_enter Tryd.func33, Tryd.ntmps33
  go_wp2
  go_loopg [4, 5] 10 (fun kq v4 v5 w' => ∃ n : Nat, n ≤ 2 ∧ kq + n = 10 ∧ v4 = .bool true ∧ v5 = .int .i64 ((2 * n : Nat) : Int) ∧ w = w')
  case atStart => exact ⟨0, by omega, by omega, rfl, rfl, rfl⟩
  case round =>
    obtain ⟨n, hn, hk, rfl, rfl, rfl⟩ := hrel
    cases gk with
    | zero => omega
    | succ k1 =>
      obtain rfl | rfl | rfl : n = 0 ∨ n = 1 ∨ n = 2 := by omega
      · go_wp2
        go_roundg k1
        case measure => omega
        case rel => exact ⟨1, by omega, by omega, rfl, rfl, rfl⟩
      · go_wp2
        go_roundg k1
        case measure => omega
        case rel => exact ⟨2, by omega, by omega, rfl, rfl, rfl⟩
      · clear hk hn
        go_wp2
        have HR0 := Aside0.mk (tab_new w w.heap.size (Nat.le_refl _))
        have HB0 := Aside0.mk (below_alloc (Below.refl w.heap.size w) (.cells Tryd.zeroCells73 73))
        go_loopg [7, 61] 300 (fun kq v7 v61 w' => ∃ i : Nat, i ≤ 256 ∧ kq + i = 300 ∧ v61 = .int .i64 (i : Int) ∧ Aside0 (Kd.R (Kd.int .u8) 73 w' w.heap.size (fun k => k = w.heap.size) (.slice (some ⟨w.heap.size, 0, none⟩) 256 256) (tabs i)) ∧ Aside0 (Below w.heap.size w w'))
        case atStart => exact ⟨0, by omega, by omega, rfl, HR0, HB0⟩
        case round =>
          clear HR0 HB0
          obtain ⟨i, hi, hk, rfl, HR, HB⟩ := hrel
          cases gk with
          | zero => omega
          | succ k1 =>
            by_cases hlt : i < 256
            · have c0 : decide ((i : Int) < 256) = true := decide_eq_true (by omega)
              have c1 : decide (0 ≤ (i : Int)) = true := decide_eq_true (by omega)
              have c2 : (i : Int) < 256 := by omega
              have c3 : i < 256 := hlt
              obtain ⟨hx, hf⟩ := Kd.R_celln 0 HR.out (i : Int) (by omega) (by omega)
              have HP := Kd.R_putg HR.out (i : Int) (i : Int)
              rw [Int.toNat_natCast] at hx hf HP
              go_wp2
              go_roundg k1
              case measure => omega
              case rel => exact ⟨i + 1, by omega, by omega, rfl, ⟨HP.1⟩, ⟨HB.out.setCell (p := ⟨w.heap.size, i, none⟩) (Nat.le_refl _) _⟩⟩
            · obtain rfl : i = 256 := by omega
              clear hk hi hlt
              go_wp2
              go_loopg [8, 9, 10] 10 (fun kq v8 v9 v10 w' => ∃ (z : Int) (xs : List Int), v8 = .int .i64 z ∧ Aside0 ((kq = 10 ∧ z = 2 ∧ xs = tabs 256) ∨ (kq = 9 ∧ z = 0 ∧ xs = (tabs 256).set 68 85) ∨ (kq = 8 ∧ z = -2 ∧ xs = tabT)) ∧ Aside0 (Kd.R (Kd.int .u8) 73 w' w.heap.size (fun k => k = w.heap.size) (.slice (some ⟨w.heap.size, 0, none⟩) 256 256) xs) ∧ Aside0 (Below w.heap.size w w'))
              case atStart => exact ⟨2, tabs 256, rfl, ⟨.inl ⟨rfl, rfl, rfl⟩⟩, HR, HB⟩
              case round =>
                clear HR HB
                obtain ⟨z, xs, rfl, HZ, HR, HB⟩ := hrel
                have g0 := (HB.out.cell (p := ⟨g, 0, none⟩) hgl).trans h0
                have g1 := (HB.out.cell (p := ⟨g, 1, none⟩) hgl).trans h1
                have g2 := (HB.out.cell (p := ⟨g, 2, none⟩) hgl).trans h2
                have g3 := (HB.out.cell (p := ⟨g, 3, none⟩) hgl).trans h3
                cases gk with
                | zero => have := HZ.out; omega
                | succ k1 =>
                  rcases HZ.out with ⟨hk, rfl, rfl⟩ | ⟨hk, rfl, rfl⟩ | ⟨hk, rfl, rfl⟩
                  · obtain ⟨hx, hf⟩ := Kd.R_celln 0 HR.out 68 (by omega) (by omega)
                    have HP := Kd.R_putg HR.out 68 85
                    rw [show (68 : Int).toNat = 68 from rfl] at hx hf HP
                    clear HZ
                    go_wp2
                    go_roundg k1
                    case measure => omega
                    case rel => exact ⟨0, _, rfl, ⟨.inr (.inl ⟨by omega, rfl, rfl⟩)⟩, ⟨HP.1⟩, ⟨HB.out.setCell (p := ⟨w.heap.size, 68, none⟩) (Nat.le_refl _) _⟩⟩
                  · obtain ⟨hx, hf⟩ := Kd.R_celln 0 HR.out 85 (by omega) (by omega)
                    have HP := Kd.R_putg HR.out 85 68
                    rw [show (85 : Int).toNat = 85 from rfl] at hx hf HP
                    clear HZ
                    go_wp2
                    go_roundg k1
                    case measure => omega
                    case rel => exact ⟨-2, _, rfl, ⟨.inr (.inr ⟨by omega, rfl, rfl⟩)⟩, ⟨HP.1⟩, ⟨HB.out.setCell (p := ⟨w.heap.size, 85, none⟩) (Nat.le_refl _) _⟩⟩
                  · clear HZ
                    go_wp2
                    go_ret
                    exact ⟨w.heap.size, rfl, Kd.R_mono HR.out (fun _ _ => trivial), HB.out⟩

/-! ### (*strings.Replacer).buildOnce (26), (*sync.Once).doSlow (32), Do (25) -/
theorem rows_far {R b w0s : Nat} {w : World} {xs : List Int} {B j : Nat} (h : Kd.R (Kd.int .u8) 73 w b (fun k => k ≠ B) (.slice (some ⟨R, 0, none⟩) 256 256) xs) (u : Value) : Kd.R (Kd.int .u8) 73 (w.setCell ⟨B, j, none⟩ u) b (fun k => k ≠ B) (.slice (some ⟨R, 0, none⟩) 256 256) xs :=
  Kd.R_far (p := ⟨B, j, none⟩) h (fun _ hk => hk) u
theorem blk_frozen {w : World} {g : Nat} {t : TypeId} {cs : Array Value} (h : w.heap[g]? = some (.cells cs t (0, 0))) (i : Nat) : w.frozen? ⟨g, i, none⟩ = false := by
  simp [World.frozen?, h]
set_option maxHeartbeats 8000000 in
set_option maxRecDepth 100000 in
theorem buildOnce_calls (B g cap : Nat) (d m s r : Value) (w0 w : World) (hb : w.heap[B]? = some (.cells #[d, m, s, r, .slice (some ⟨g, 0, none⟩) 4 cap] 54 (0, 0)))
    (h0 : w.cell? ⟨g, 0, none⟩ = some (.string ⟨#[85]⟩)) (h1 : w.cell? ⟨g, 1, none⟩ = some (.string ⟨#[68]⟩)) (h2 : w.cell? ⟨g, 2, none⟩ = some (.string ⟨#[68]⟩)) (h3 : w.cell? ⟨g, 3, none⟩ = some (.string ⟨#[85]⟩)) (hgl : g < w.heap.size) (hB0 : Below w0.heap.size w0 w) (hb0 : w0.heap.size ≤ B) :
    Calls Tryd.prog 26 #[.pointer (some ⟨B, 0, none⟩)] w fun e w' => e = .returned (.tuple #[]) ∧ ∃ R, w'.heap[B]? = some (.cells #[d, m, s, .iface 74 (.pointer (some ⟨R, 0, none⟩)), .slice none 0 0] 54 (0, 0)) ∧ Kd.R (Kd.int .u8) 73 w' w0.heap.size (fun k => k ≠ B) (.slice (some ⟨R, 0, none⟩) 256 256) tabT ∧ Below w0.heap.size w0 w' := by
  have hBl : B < w.heap.size := blk_lt hb
  have hc4 : w.cell? ⟨B, 4, none⟩ = some (.slice (some ⟨g, 0, none⟩) 4 cap) := (blk_cell hb 4).trans rfl
  go_enter Tryd.func26, Tryd.ntmps26
  go_wp2_with (first | ((with_reducible refine gate_callee (f := 33) rfl ?_); refine goesL_ (some 4) rfl rfl Tryd.func33 (by kernel_rfl) rfl #[.pointer (some ⟨B, 0, none⟩)] rfl (by (try simp only [List.map_toArray, List.map_cons, List.map_nil]); first | done | rfl) ?_; (with_reducible refine (build_calls B g cap w hc4 h0 h1 h2 h3 hgl hBl).mono ?_); rintro e w1 ⟨R, rfl, hR, hb1⟩; refine ⟨_, rfl, ?_⟩; have HR := Aside0.mk hR; have HB1 := Aside0.mk hb1; have hbb := (hb1.block B hBl).trans hb; have k3 : w1.cell? ⟨B, 3, none⟩ = some r := (blk_cell hbb 3).trans rfl; have f3 := blk_frozen hbb 3; have f4 := blk_frozen hbb 4; have hb2 := blk_put (cs' := #[d, m, s, .iface 74 (.pointer (some ⟨R, 0, none⟩)), .slice (some ⟨g, 0, none⟩) 4 cap]) hbb 3 (.iface 74 (.pointer (some ⟨R, 0, none⟩))) rfl; have k4 : (w1.setCell ⟨B, 3, none⟩ (.iface 74 (.pointer (some ⟨R, 0, none⟩)))).cell? ⟨B, 4, none⟩ = some (.slice (some ⟨g, 0, none⟩) 4 cap) := (blk_cell hb2 4).trans rfl; have HB2 := Aside0.mk hb2; clear hR hb1 hbb hb2))
  go_end0
  have hR2 := Kd.R_mono (ok' := fun k => k ≠ B) (Kd.R_lower (Kd.R_bound HR.out) hB0.size) (fun k hk e => by have := hk.2.1; omega)
  refine ⟨rfl, R, blk_put HB2.out 4 _ rfl, rows_far (w0s := 0) (rows_far (w0s := 0) hR2 _) _, ?_⟩
  exact ((below_then hB0 hB0.size HB1.out).setCell (p := ⟨B, 3, none⟩) hb0 _).setCell (p := ⟨B, 4, none⟩) hb0 _

set_option maxHeartbeats 8000000 in
set_option maxRecDepth 100000 in
theorem slow_calls (B g cap : Nat) (s r : Value) (w0 w : World) (hb : w.heap[B]? = some (.cells #[.int .u32 0, .int .i32 0, s, r, .slice (some ⟨g, 0, none⟩) 4 cap] 54 (0, 0)))
    (h0 : w.cell? ⟨g, 0, none⟩ = some (.string ⟨#[85]⟩)) (h1 : w.cell? ⟨g, 1, none⟩ = some (.string ⟨#[68]⟩)) (h2 : w.cell? ⟨g, 2, none⟩ = some (.string ⟨#[68]⟩)) (h3 : w.cell? ⟨g, 3, none⟩ = some (.string ⟨#[85]⟩)) (hgB : g ≠ B) (hgl : g < w.heap.size) (hB0 : Below w0.heap.size w0 w) (hb0 : w0.heap.size ≤ B) :
    Calls Tryd.prog 32 #[.pointer (some ⟨B, 0, none⟩), .func (.func 26) #[.pointer (some ⟨B, 0, none⟩)] #[]] w fun e w' => e = .returned (.tuple #[]) ∧ ∃ R, w'.heap[B]? = some (.cells #[.int .u32 1, .int .i32 0, s, .iface 74 (.pointer (some ⟨R, 0, none⟩)), .slice none 0 0] 54 (0, 0)) ∧ Kd.R (Kd.int .u8) 73 w' w0.heap.size (fun k => k ≠ B) (.slice (some ⟨R, 0, none⟩) 256 256) tabT ∧ Below w0.heap.size w0 w' := by
  obtain ⟨w1, hw1⟩ : ∃ w1, w.setCell ⟨B, 1, none⟩ (.int .i32 1) = w1 := ⟨_, rfl⟩
  have hb1 : w1.heap[B]? = some (.cells #[.int .u32 0, .int .i32 1, s, r, .slice (some ⟨g, 0, none⟩) 4 cap] 54 (0, 0)) := by rw [← hw1]; exact blk_put hb 1 _ rfl
  have hgc : ∀ j, w1.cell? ⟨g, j, none⟩ = w.cell? ⟨g, j, none⟩ := fun j => by
    rw [← hw1]; exact World.cell?_setCell_other _ ⟨B, 1, none⟩ ⟨g, j, none⟩ _ (by simp [hgB])
  have hgl1 : g < w1.heap.size := by rw [← hw1, World.size_setCell]; exact hgl
  have hB1 : Below w0.heap.size w0 w1 := by rw [← hw1]; exact hB0.setCell (p := ⟨B, 1, none⟩) hb0 _
  have c0 : w1.cell? ⟨B, 0, none⟩ = some (.int .u32 0) := (blk_cell hb1 0).trans rfl
  have hl := run_call_load (P := Tryd.prog) Tryd.func37 (by kernel_rfl) (by kernel_rfl) (by kernel_rfl) .u32 (by kernel_rfl) (w := w1) (a := ⟨B, 0, none⟩) (x := 0) c0
  have hnot : ∀ (x : Bool) (w : World), (Op.unary .not (.bool x)).run Tryd.prog w = .ok (.bool (!x)) w := fun _ _ => rfl
  go_enter_defers Tryd.func32, Tryd.ntmps32
  go_wp2_with (first | (go_at_call 38; refine (lock_free ⟨B, 1, none⟩ _ ((blk_cell hb 1).trans rfl) (blk_frozen hb 1)).mono ?_; rintro e w5 ⟨rfl, hw5⟩; rw [hw1] at hw5; subst hw5) | (go_at_call 26; refine (buildOnce_calls B g cap _ _ s r w0 _ hb1 ((hgc 0).trans h0) ((hgc 1).trans h1) ((hgc 2).trans h2) ((hgc 3).trans h3) hgl1 hB1 hb0).mono ?_; rintro e w2 ⟨rfl, R, hb2, hR2, hB2⟩) | (go_at_call 31; go_in))
  have d0 : w2.cell? ⟨B, 0, none⟩ = some (.int .u32 0) := (blk_cell hb2 0).trans rfl
  refine leaves_cons (f := 40) (args := #[.pointer (some ⟨B, 0, none⟩), .bool true]) (by simp) (by simp [go_sem]) ?_
  refine (store_deferred ⟨B, 0, none⟩ (.int .u32 0) .returning _ d0 (blk_frozen hb2 0)).mono ?_
  rintro e u' w3 ⟨rfl, rfl, rfl⟩
  have hb3 : (w2.drew.setCell ⟨B, 0, none⟩ (.int .u32 1)).heap[B]? = some (.cells #[.int .u32 1, .int .i32 1, s, .iface 74 (.pointer (some ⟨R, 0, none⟩)), .slice none 0 0] 54 (0, 0)) := blk_put (w := w2.drew) hb2 0 _ rfl
  refine leaves_cons (f := 39) (args := #[.pointer (some ⟨B, 1, none⟩)]) (by simp [settle]) (by simp [go_sem]) ?_
  refine (unlock_deferred ⟨B, 1, none⟩ _ _ ((blk_cell hb3 1).trans rfl) (blk_frozen hb3 1)).mono ?_
  rintro e u' w4 ⟨rfl, rfl, rfl⟩
  have hB3 : Below w0.heap.size w0 ((w2.drew.setCell ⟨B, 0, none⟩ (.int .u32 1)).setCell ⟨B, 1, none⟩ (.int .i32 0)) := ((below_drew1 hB2).setCell (p := ⟨B, 0, none⟩) hb0 _).setCell (p := ⟨B, 1, none⟩) hb0 _
  have hb4 := blk_put (cs' := #[.int .u32 1, .int .i32 0, s, .iface 74 (.pointer (some ⟨R, 0, none⟩)), .slice none 0 0]) hb3 1 (.int .i32 0) rfl
  have hR4 := rows_far (w0s := 0) (j := 1) (rows_far (w0s := 0) (j := 0) (Kd.R_drew hR2) (.int .u32 1)) (.int .i32 0)
  obtain ⟨w6, hw6⟩ : ∃ w6, (w2.drew.setCell ⟨B, 0, none⟩ (.int .u32 1)).setCell ⟨B, 1, none⟩ (.int .i32 0) = w6 := ⟨_, rfl⟩
  rw [hw6] at hB3 hb4 hR4 ⊢
  clear hw6 hb3 hR2 hB2 hb2 d0
  refine ⟨.tuple #[], ?_, rfl, R, hb4, hR4, hB3⟩
  simp [settle, results, Tryd.results32]

set_option maxHeartbeats 8000000 in
set_option maxRecDepth 100000 in
theorem do_calls (B g cap : Nat) (s r : Value) (w0 w : World) (hb : w.heap[B]? = some (.cells #[.int .u32 0, .int .i32 0, s, r, .slice (some ⟨g, 0, none⟩) 4 cap] 54 (0, 0)))
    (h0 : w.cell? ⟨g, 0, none⟩ = some (.string ⟨#[85]⟩)) (h1 : w.cell? ⟨g, 1, none⟩ = some (.string ⟨#[68]⟩)) (h2 : w.cell? ⟨g, 2, none⟩ = some (.string ⟨#[68]⟩)) (h3 : w.cell? ⟨g, 3, none⟩ = some (.string ⟨#[85]⟩)) (hgB : g ≠ B) (hgl : g < w.heap.size) (hB0 : Below w0.heap.size w0 w) (hb0 : w0.heap.size ≤ B) :
    Calls Tryd.prog 25 #[.pointer (some ⟨B, 0, none⟩), .func (.func 26) #[.pointer (some ⟨B, 0, none⟩)] #[]] w fun e w' => e = .returned (.tuple #[]) ∧ ∃ R, w'.heap[B]? = some (.cells #[.int .u32 1, .int .i32 0, s, .iface 74 (.pointer (some ⟨R, 0, none⟩)), .slice none 0 0] 54 (0, 0)) ∧ Kd.R (Kd.int .u8) 73 w' w0.heap.size (fun k => k ≠ B) (.slice (some ⟨R, 0, none⟩) 256 256) tabT ∧ Below w0.heap.size w0 w' := by
  have hl := run_call_load (P := Tryd.prog) Tryd.func37 (by kernel_rfl) (by kernel_rfl) (by kernel_rfl) .u32 (by kernel_rfl) (w := w) (a := ⟨B, 0, none⟩) (x := 0) ((blk_cell hb 0).trans rfl)
  have hnot : ∀ (x : Bool) (w : World), (Op.unary .not (.bool x)).run Tryd.prog w = .ok (.bool (!x)) w := fun _ _ => rfl
  go_enter Tryd.func25, Tryd.ntmps25
  go_wp2_with (first | (go_at_call 32; refine (slow_calls B g cap s r w0 w hb h0 h1 h2 h3 hgB hgl hB0 hb0).mono ?_; rintro e w' ⟨rfl, R, hb2, hR2, hB2⟩) | (go_at_call 31; go_in))
  go_end0
  exact ⟨rfl, R, hb2, hR2, hB2⟩

/-! ### strings.NewReplacer (16) -/
theorem info9 : (Tryd.prog.info? 9).map (fun i => (i.zero, i.size, i.bytes)) = some (some (.string ByteArray.empty), 1, 16) := by kernel_rfl
set_option maxHeartbeats 8000000 in
set_option maxRecDepth 100000 in
theorem newrep_calls (h cap0 : Nat) (w : World) (hr : Kd.C Kd.string w (some ⟨h, 0, none⟩) 4 [⟨#[85]⟩, ⟨#[68]⟩, ⟨#[68]⟩, ⟨#[85]⟩]) :
    Calls Tryd.prog 16 #[.slice (some ⟨h, 0, none⟩) 4 4] w fun e w' => ∃ B g cap, e = .returned (.pointer (some ⟨B, 0, none⟩)) ∧ w'.heap[B]? = some (.cells #[.int .u32 0, .int .i32 0, .int .u32 0, .nilIface, .slice (some ⟨g, 0, none⟩) 4 cap] 54 (0, 0)) ∧
      Kd.R Kd.string 9 w' w.heap.size (fun k => k ≠ B) (.slice (some ⟨g, 0, none⟩) 4 cap) [⟨#[85]⟩, ⟨#[68]⟩, ⟨#[68]⟩, ⟨#[85]⟩] ∧ w.heap.size ≤ B ∧ Below w.heap.size w w' := by
  have HR0 := Aside0.mk hr
  have HB := Aside0.mk (Below.refl w.heap.size w)
  clear hr
  go_enter Tryd.func16, Tryd.ntmps16
  go_wp2_with (first | ((with_reducible refine gate_builtin (b := .append) (xs := #[.const (.slice none 0 0), .tmp 8]) rfl ?_); at_builtin; refine Kd.R_append_rows Kd.string (w0 := w) w.heap.size rfl (.const (.slice none 0 0)) (.tmp 8) 38 9 (.string ByteArray.empty) 16 rfl Tryd.underlying38 info9 rfl (by decide) (by omega) (.slice none 0 0) [] [⟨#[85]⟩, ⟨#[68]⟩, ⟨#[68]⟩, ⟨#[85]⟩] _ _ _ (fun _ => True) (fun _ => False) rfl rfl ?aO ?aR (fun _ _ h => h) (fun _ h => h.elim) ?aF ?aB ?aS ?aL ?_; (case aO => exact Kd.R_nil _ _ _ _ _); (case aR => exact HR0.out); (case aF => exact fun _ _ => trivial); (case aB => exact HB.out); (case aS => exact Nat.le_refl _); (case aL => decide); intro v1 w1 ho hb hg hat; obtain ⟨g, cap, e1, hg1, hg2, _⟩ := Kd.R_form ho (by decide); have e2 : v1 = .slice (some ⟨g, 0, none⟩) 4 cap := e1; subst e2; have HO := Aside0.mk ho; have HB1 := Aside0.mk hb; have HG2 := Aside0.mk hg2; clear e1 ho hb hg hat HB))
  go_ret
  refine ⟨_, g, cap, rfl, heap_alloc_new _ _, ?_, HB1.out.size, below_alloc HB1.out _⟩
  exact Kd.R_alloc (Kd.R_mono (Kd.R_bound HO.out) (fun k hk e => by have := hk.2.2.1; omega)) _

/-! ### (*strings.byteReplacer).Replace (102), on a text of U and D -/
theorem ud_at (s : ByteArray) (hud : ∀ b ∈ s.data.toList, b = 85 ∨ b = 68) (i : Nat) (hi : i < s.size) : s.data.toList.getD i 0 = 85 ∨ s.data.toList.getD i 0 = 68 := by
  have h' : i < s.data.toList.length := by rw [data_length]; exact hi
  rw [List.getD_eq_getElem?_getD, List.getElem?_eq_getElem h']
  exact hud _ (List.getElem_mem h')
set_option maxHeartbeats 8000000 in
set_option maxRecDepth 100000 in
theorem replace_calls (R : Nat) (s : ByteArray) (hs : s.size ≤ 1000) (hud : ∀ b ∈ s.data.toList, b = 85 ∨ b = 68) (w : World) (hU : w.cell? ⟨R, 85, none⟩ = some (.int .u8 68)) (hD : w.cell? ⟨R, 68, none⟩ = some (.int .u8 85)) (hRl : R < w.heap.size) :
    Calls Tryd.prog 102 #[.pointer (some ⟨R, 0, none⟩), .string s] w fun e w' => e = .returned (.string (exs s)) ∧ Below w.heap.size w w' := by
  have kb := fun W => print_bytes (P := Tryd.prog) 9 26 5 Tryd.underlying9 Tryd.underlying26 Tryd.underlying5 s W
  have kn : ∀ (a : Option Addr) (n c : Nat) (W : World), (binOp .eql 26 (.slice a n c) (.slice none 0 0)).run Tryd.prog W = .ok (.bool a.isNone) W := fun a n c W => Lib.run_eql_slice_nil W 26 5 a n c 0 0 Tryd.underlying26
  have hl := data_length s
  have HUD := Aside0.mk hud
  clear hud
  go_enter Tryd.func102, Tryd.ntmps102
  go_wp2
  generalize hcap : grownCap w s.size 0 5 = cap
  go_loopg [5, 6, 7] 2000 (fun kq v5 v6 v7 w' => ∃ i : Nat, i ≤ s.size ∧ kq + i = 2000 ∧ v6 = .int .i64 (i : Int) ∧ Aside0 ((i = 0 ∧ w' = w ∧ v5 = .slice none 0 0) ∨ (0 < i ∧ ∃ cap, v5 = .slice (some ⟨w.heap.size, 0, none⟩) s.size cap ∧ Buf w' w.heap.size (mix s.data.toList i) ∧ Below w.heap.size w w')))
  case atStart => exact ⟨0, by omega, by omega, rfl, ⟨.inl ⟨rfl, rfl, rfl⟩⟩⟩
  case round =>
    obtain ⟨i, hi, hk, rfl, HZ⟩ := hrel
    cases gk with
    | zero => omega
    | succ k1 =>
      have hml := mix_len s.data.toList i
      by_cases hlt : i < s.size
      · have c0 : decide ((i : Int) < (s.size : Int)) = true := decide_eq_true (by exact_mod_cast hlt)
        have c1 : decide (0 ≤ (i : Int)) = true := decide_eq_true (by omega)
        have c2 : (i : Int) < (s.size : Int) := by omega
        have c3 : i < s.size := hlt
        have HM0 := mix_set s.data.toList i (by rw [hl]; exact hlt)
        have h1 : ∀ h : i < s.size, s[i]'h = s.data.toList.getD i 0 := fun h => by
          rw [List.getD_eq_getElem?_getD, List.getElem?_eq_getElem (by rw [data_length]; exact h)]; rfl
        rcases ud_at s HUD.out i hlt with hb | hb
        · have hat : ∀ h : i < s.size, (s[i]'h).toNat = 85 := fun h => by rw [h1 h, hb]; rfl
          rw [hb] at HM0
          have HM := Aside0.mk HM0
          clear hb HM0 h1
          rcases HZ.out with ⟨rfl, rfl, rfl⟩ | ⟨hpos, cap', rfl, hR, hB⟩
          · clear HZ
            have HR := Aside0.mk (Buf.new wr s)
            obtain ⟨hx, hf⟩ := Buf.cell HR.out 0 (by omega) (by omega)
            rw [show (0 : Int).toNat = 0 from rfl] at hx hf
            have hU2 := (Lib.bytesWorld_old wr 5 s ⟨R, 85, none⟩ hRl).trans hU
            have HP := Aside0.mk (Buf.set HR.out 0 68 (.int .u8 68) rfl)
            go_wp2
            go_roundg k1
            case measure => omega
            case rel => exact ⟨1, by omega, by omega, rfl, ⟨.inr ⟨by omega, _, rfl, by rw [← HM.out, mix_zero]; exact HP.out, (bytes_below (Below.refl _ _) (Nat.le_refl _) 5 s).setCell (p := ⟨wr.heap.size, 0, none⟩) (Nat.le_refl _) _⟩⟩⟩
          · clear HZ
            have HR := Aside0.mk hR
            have HB := Aside0.mk hB
            have hU2 := (hB.cell (p := ⟨R, 85, none⟩) hRl).trans hU
            obtain ⟨hx, hf⟩ := Buf.cell HR.out (i : Int) (by omega) (by rw [hml, hl]; exact c2)
            rw [show (i : Int).toNat = i from rfl] at hx hf
            have HP := Aside0.mk (Buf.set HR.out i 68 (.int .u8 68) rfl)
            clear hR hB
            go_wp2
            go_roundg k1
            case measure => omega
            case rel => exact ⟨i + 1, by omega, by omega, rfl, ⟨.inr ⟨by omega, _, rfl, by rw [← HM.out]; exact HP.out, HB.out.setCell (p := ⟨w.heap.size, i, none⟩) (Nat.le_refl _) _⟩⟩⟩
        · have hat : ∀ h : i < s.size, (s[i]'h).toNat = 68 := fun h => by rw [h1 h, hb]; rfl
          rw [hb] at HM0
          have HM := Aside0.mk HM0
          clear hb HM0 h1
          rcases HZ.out with ⟨rfl, rfl, rfl⟩ | ⟨hpos, cap', rfl, hR, hB⟩
          · clear HZ
            have HR := Aside0.mk (Buf.new wr s)
            obtain ⟨hx, hf⟩ := Buf.cell HR.out 0 (by omega) (by omega)
            rw [show (0 : Int).toNat = 0 from rfl] at hx hf
            have hU2 := (Lib.bytesWorld_old wr 5 s ⟨R, 68, none⟩ hRl).trans hD
            have HP := Aside0.mk (Buf.set HR.out 0 85 (.int .u8 85) rfl)
            go_wp2
            go_roundg k1
            case measure => omega
            case rel => exact ⟨1, by omega, by omega, rfl, ⟨.inr ⟨by omega, _, rfl, by rw [← HM.out, mix_zero]; exact HP.out, (bytes_below (Below.refl _ _) (Nat.le_refl _) 5 s).setCell (p := ⟨wr.heap.size, 0, none⟩) (Nat.le_refl _) _⟩⟩⟩
          · clear HZ
            have HR := Aside0.mk hR
            have HB := Aside0.mk hB
            have hU2 := (hB.cell (p := ⟨R, 68, none⟩) hRl).trans hD
            obtain ⟨hx, hf⟩ := Buf.cell HR.out (i : Int) (by omega) (by rw [hml, hl]; exact c2)
            rw [show (i : Int).toNat = i from rfl] at hx hf
            have HP := Aside0.mk (Buf.set HR.out i 85 (.int .u8 85) rfl)
            clear hR hB
            go_wp2
            go_roundg k1
            case measure => omega
            case rel => exact ⟨i + 1, by omega, by omega, rfl, ⟨.inr ⟨by omega, _, rfl, by rw [← HM.out]; exact HP.out, HB.out.setCell (p := ⟨w.heap.size, i, none⟩) (Nat.le_refl _) _⟩⟩⟩
      · obtain rfl : i = s.size := by omega
        rcases HZ.out with ⟨h0, rfl, rfl⟩ | ⟨hpos, cap', rfl, hR, hB⟩
        · have he : Aside0 (s = exs s) := by
            refine ⟨?_⟩
            have h1 : s.data.toList = [] := List.eq_nil_of_length_eq_zero (by omega)
            have h2 : s = ⟨#[]⟩ := ByteArray.ext (Array.toList_inj.mp (by rw [h1]))
            rw [h2]; rfl
          clear HZ hk hi hlt hml h0
          go_wp2
          go_ret
          exact ⟨congrArg (fun x => Ending.returned (.string x)) he.out, Below.refl _ _⟩
        · have hcb : (convert 26 9 (.slice (some ⟨w.heap.size, 0, none⟩) s.size cap')).run Tryd.prog wr = .ok (.string (exs s)) wr := by
            have h := run_convert_bytes_back (P := Tryd.prog) wr 26 9 5 ⟨w.heap.size, 0, none⟩ cap' (mix s.data.toList s.size) Tryd.underlying26 Tryd.underlying5 Tryd.underlying9 (fun j hj => by
              rw [add_plain, Buf.cell2 hR j hj]
              simp [List.getD_eq_getElem?_getD, List.getElem?_eq_getElem hj])
            rw [hml, hl, exs_of] at h
            exact h
          have HB := Aside0.mk hB
          clear hk hi hlt hml HZ hR hB
          go_wp2
          go_ret
          exact ⟨rfl, HB.out⟩

/-! ### (*strings.Replacer).Replace (17) -/
theorem cell_some_lt {w : World} {g j : Nat} {v : Value} (h : w.cell? ⟨g, j, none⟩ = some v) : g < w.heap.size := by
  by_cases hl : g < w.heap.size
  · exact hl
  · simp [World.cell?, Array.getElem?_eq_none (Nat.le_of_not_lt hl)] at h
set_option maxHeartbeats 8000000 in
set_option maxRecDepth 100000 in
theorem rep17_calls (B g cap : Nat) (sv r : Value) (w0 w : World) (hb : w.heap[B]? = some (.cells #[.int .u32 0, .int .i32 0, sv, r, .slice (some ⟨g, 0, none⟩) 4 cap] 54 (0, 0)))
    (h0 : w.cell? ⟨g, 0, none⟩ = some (.string ⟨#[85]⟩)) (h1 : w.cell? ⟨g, 1, none⟩ = some (.string ⟨#[68]⟩)) (h2 : w.cell? ⟨g, 2, none⟩ = some (.string ⟨#[68]⟩)) (h3 : w.cell? ⟨g, 3, none⟩ = some (.string ⟨#[85]⟩)) (hgB : g ≠ B) (hgl : g < w.heap.size) (hB0 : Below w0.heap.size w0 w) (hb0 : w0.heap.size ≤ B)
    (s : ByteArray) (hs : s.size ≤ 1000) (hud : ∀ b ∈ s.data.toList, b = 85 ∨ b = 68) :
    Calls Tryd.prog 17 #[.pointer (some ⟨B, 0, none⟩), .string s] w fun e w' => e = .returned (.string (exs s)) ∧ Below w0.heap.size w0 w' := by
  have hmf : ∀ (fn : Fn) (first cap : Array Value) (w : World), (Instr.makeFunc fn first cap).run Tryd.prog w = .ok (.func fn first cap) w := fun _ _ _ _ => rfl
  have hm : ∀ (R : Nat) (w : World), (method 259 74 (.pointer (some ⟨R, 0, none⟩)) "Replace").run Tryd.prog w = .ok (102, .pointer (some ⟨R, 0, none⟩)) w := fun _ _ => by kernel_rfl
  go_enter Tryd.func17, Tryd.ntmps17
  go_wp2_with (first | (go_at_call 25; refine (do_calls B g cap sv r w0 w hb h0 h1 h2 h3 hgB hgl hB0 hb0).mono ?_; rintro e w' ⟨rfl, R, hb2, hR2, hB2⟩; have c0 := blk_cell hb2 3; have HRR := Aside0.mk hR2; have HBB := Aside0.mk hB2; obtain ⟨x0, _⟩ := Kd.R_celln 0 hR2 85 (by omega) (by omega); obtain ⟨x1, _⟩ := Kd.R_celln 0 hR2 68 (by omega) (by omega); have hU := x0.trans (show _ = some (Value.int .u8 68) by kernel_rfl); have hD := x1.trans (show _ = some (Value.int .u8 85) by kernel_rfl); clear hR2 hB2 x0 x1) | (go_at_call 102; refine (replace_calls _ s hs hud _ hU hD (cell_some_lt hU)).mono ?_; rintro e w'' ⟨rfl, hb3⟩))
  go_ret
  exact ⟨rfl, HBB.out.trans (Below.mono hb3 HBB.out.size)⟩

/-! ### impl.turned (12) -/
set_option maxHeartbeats 8000000 in
set_option maxRecDepth 100000 in
theorem turned_calls (s : ByteArray) (hs : s.size ≤ 1000) (hud : ∀ b ∈ s.data.toList, b = 85 ∨ b = 68) (w : World) :
    Calls Tryd.prog 12 #[.string s] w fun e w' => e = .returned (.string (exs s)) ∧ Below w.heap.size w w' := by
  have hC : ∀ t, Kd.C Kd.string (w.alloc (.cells #[.string ⟨#[85]⟩, .string ⟨#[68]⟩, .string ⟨#[68]⟩, .string ⟨#[85]⟩] t)) (some ⟨w.heap.size, 0, none⟩) 4 [⟨#[85]⟩, ⟨#[68]⟩, ⟨#[68]⟩, ⟨#[85]⟩] := fun t => by
    refine Kd.C_of_reads (d := ByteArray.empty) ⟨rfl, by omega, fun _ => ⟨_, rfl, fun j hj => ?_⟩⟩
    rw [add_plain, cell_of_row _ _ j _ _ _ (heap_alloc_new w _)]
    obtain rfl | rfl | rfl | rfl : j = 0 ∨ j = 1 ∨ j = 2 ∨ j = 3 := by omega
    all_goals rfl
  have HC := Aside0.mk hC
  have HB := Aside0.mk (below_alloc (Below.refl w.heap.size w))
  clear hC
  go_enter Tryd.func12, Tryd.ntmps12
  go_wp2_with (first | (go_at_call 16; refine (newrep_calls w.heap.size 0 _ (HC.out 9)).mono ?_; rintro e w1 ⟨B, g, cap, rfl, hb, hR, hsB, hB1⟩; have h0 := ((Kd.R_celln ByteArray.empty hR 0 (by omega) (by omega)).1).trans (show _ = some (Value.string ⟨#[85]⟩) by rfl); have h1 := ((Kd.R_celln ByteArray.empty hR 1 (by omega) (by omega)).1).trans (show _ = some (Value.string ⟨#[68]⟩) by rfl); have h2 := ((Kd.R_celln ByteArray.empty hR 2 (by omega) (by omega)).1).trans (show _ = some (Value.string ⟨#[68]⟩) by rfl); have h3 := ((Kd.R_celln ByteArray.empty hR 3 (by omega) (by omega)).1).trans (show _ = some (Value.string ⟨#[85]⟩) by rfl); have HR := Aside0.mk hR; have HB1 := Aside0.mk hB1; have HS := Aside0.mk hsB; have HX := Aside0.mk h0; have HX1 := Aside0.mk h1; have HX2 := Aside0.mk h2; have HX3 := Aside0.mk h3; clear hR hB1 hsB h0 h1 h2 h3) | (go_at_call 17; refine (rep17_calls B g cap _ _ w _ hb HX.out HX1.out HX2.out HX3.out (HR.out.1 g rfl) (cell_some_lt HX.out) ((HB.out _).trans (Below.mono HB1.out (HB.out _).size)) (Nat.le_trans (HB.out _).size HS.out) s hs hud).mono ?_; rintro e w2 ⟨rfl, hb3⟩))
  go_ret
  exact ⟨rfl, hb3⟩

def UDs (s : ByteArray) : Bool := s.data.toList.all (fun b => b == 85 || b == 68)
theorem ud_of {s : ByteArray} (h : UDs s = true) : ∀ b ∈ s.data.toList, b = 85 ∨ b = 68 := fun b hb => by
  have := List.all_eq_true.mp h b hb
  simpa using this
def impl_turned.f (a0 : ByteArray) : Option ByteArray := if a0.size ≤ 1000 ∧ UDs a0 = true then some (exs a0) else none
theorem impl_turned.calls (a0 : ByteArray) (r : ByteArray) (w : World) (h : impl_turned.f a0 = some r) :
    Calls Tryd.prog 12 #[.string a0] w fun e w' => e = .returned (.string r) ∧ Below w.heap.size w w' := by
  unfold impl_turned.f at h
  split at h
  · rename_i hc
    obtain rfl := Option.some.inj h
    exact turned_calls a0 hc.1 (ud_of hc.2) w
  · cases h

/-! ### impl_BackPath: function 8 -/
/-! ### slices.Reverse over a conversion's bytes; impl.BackPath (8) -/
def bv (b : UInt8) : Value := .int .u8 (b.toNat : Int)
def revRen : Go.Shelf.Ren := { f := fun _ => 14, t := fun x => if x = 22 then 26 else if x = 23 then 5 else x, g := fun x => x }
theorem revLays : Go.Proofs.SlLaysE.n35 Tryd.prog revRen where
  mixed := by kernel_rfl
  f35 := ⟨ "slices.Reverse[[]byte,byte]", by decide, by kernel_rfl⟩
  t0 := Tryd.underlying0
  a0 := fun _ => by kernel_rfl
  z0 := fun _ => by kernel_rfl
  v0 := fun _ => by kernel_rfl
  t3 := Tryd.underlying3
  a3 := fun _ => by kernel_rfl
  z3 := fun _ => by kernel_rfl
  v3 := fun _ => by kernel_rfl
  t4 := Tryd.underlying4
  a4 := fun _ => by kernel_rfl
  z4 := fun _ => by kernel_rfl
  v4 := fun _ => by kernel_rfl
  t22 := Tryd.underlying26
  a22 := fun _ => by kernel_rfl
  z22 := fun _ => by kernel_rfl
  v22 := fun _ => by kernel_rfl
  a23 := fun _ => by kernel_rfl
  z23 := fun _ => by kernel_rfl
theorem Buf.holds {w : World} {g : Nat} {xs : List UInt8} (h : Buf w g xs) : Go.Sort.Holds bv w g 0 xs.toArray := fun j hj => by
  have hj' : j < xs.length := by simpa using hj
  obtain ⟨h1, h2⟩ := h.cell (j : Int) (by omega) (by omega)
  rw [show (j : Int).toNat = j from rfl] at h1 h2
  rw [Nat.zero_add]
  refine ⟨?_, h2⟩
  rw [h1]
  simp [bv, hj', List.getD_eq_getElem?_getD]
theorem putRow_below {B : Nat} {w : World} {g : Nat} (hg : B ≤ g) (d : Array UInt8) (n : Nat) : Below B w (Go.Sort.putRow bv (Go.Sort.ahead w n) g 0 d) :=
  ⟨rfl, rfl, rfl, by rw [Go.Sort.size_putRow]; exact Nat.le_refl _, fun k hk => by
    have hne : g ≠ k := by omega
    simp [Go.Sort.putRow, Go.Sort.mapBlock, Array.getElem?_modify, hne]⟩
theorem reverse_calls (xs : List UInt8) (hs : xs.length ≤ 1000) (g cap : Nat) (w0 w : World) (hg : w0.heap.size ≤ g) (h : Buf w g xs) (hB : Below w0.heap.size w0 w) :
    Calls Tryd.prog 14 #[.slice (some ⟨g, 0, none⟩) xs.length cap] w fun e w' => e = .returned (.tuple #[]) ∧ (∀ j (hj : j < xs.reverse.length), w'.cell? ((⟨g, 0, none⟩ : Addr).add j) = some (.int .u8 (xs.reverse[j].toNat : Int))) ∧ Below w0.heap.size w0 w' := by
  refine (Go.Proofs.AnyE.slices_Reverse revLays bv (fun _ => rfl) g 0 cap xs w h.holds (by omega)).mono ?_
  rintro e w' ⟨rfl, n, rfl⟩
  refine ⟨rfl, fun j hj => ?_, hB.trans (putRow_below hg _ n)⟩
  have hj' : j < xs.reverse.toArray.size := by simpa using hj
  have h1 := Go.Sort.cell?_putRow bv (Go.Sort.ahead w n) g 0 xs.toArray xs.reverse.toArray h.holds (by simp) j hj'
  rw [Nat.zero_add] at h1
  rw [add_plain, h1, getElem!_pos _ j hj']
  simp [bv]
def revs (s : ByteArray) : ByteArray := ⟨s.data.toList.reverse.toArray⟩
def impl_BackPath.f (a0 : ByteArray) : Option (ByteArray × Bool) := (impl_IsPath.f a0).bind fun t => if t = true then ((impl_turned.f a0).bind fun x => if x.size ≤ 1000 then some (revs x, true) else none) else some (⟨#[]⟩, false)
set_option maxHeartbeats 8000000 in
set_option maxRecDepth 100000 in
theorem impl_BackPath.calls (a0 : ByteArray) (r1 : ByteArray) (r2 : Bool) (w : World) (h : impl_BackPath.f a0 = some (r1, r2)) :
    Calls Tryd.prog 8 #[.string a0] w fun e w' => e = .returned (.tuple #[.string r1, .bool r2]) ∧ Below w.heap.size w w' := by
  unfold impl_BackPath.f at h
  replace h := Option.bind_eq_some_iff.mp h
  obtain ⟨t, At0, h⟩ := h
  have At := Aside0.mk At0
  clear At0
  cases t with
  | false =>
    simp only [Bool.false_eq_true, if_false, Option.some.injEq, Prod.mk.injEq] at h
    obtain ⟨rfl, rfl⟩ := h
    go_enter Tryd.func8, Tryd.ntmps8
    go_wp2_with (first | (go_at_call 11; refine (impl_IsPath.calls a0 false _ At.out).mono ?_; rintro e w1 ⟨rfl, hb1⟩; have HB1 := Aside0.mk hb1; clear hb1))
    go_ret2
    exact ⟨rfl, HB1.out⟩
  | true =>
    simp only [if_true] at h
    replace h := Option.bind_eq_some_iff.mp h
    obtain ⟨x, Ax0, h⟩ := h
    have Ax := Aside0.mk Ax0
    clear Ax0
    by_cases hx : x.size ≤ 1000
    · rw [if_pos hx] at h
      simp only [Option.some.injEq, Prod.mk.injEq] at h
      obtain ⟨hr, rfl⟩ := h
      have HR := Aside0.mk hr
      clear hr
      have kb := fun W => print_bytes (P := Tryd.prog) 9 26 5 Tryd.underlying9 Tryd.underlying26 Tryd.underlying5 x W
      have hl := data_length x
      have hcb : ∀ (g cap : Nat) (W : World), (∀ j (hj : j < x.data.toList.reverse.length), W.cell? ((⟨g, 0, none⟩ : Addr).add j) = some (.int .u8 (x.data.toList.reverse[j].toNat : Int))) → (convert 26 9 (.slice (some ⟨g, 0, none⟩) x.size cap)).run Tryd.prog W = .ok (.string (revs x)) W := fun g cap W hc => by
        have h := run_convert_bytes_back (P := Tryd.prog) W 26 9 5 ⟨g, 0, none⟩ cap x.data.toList.reverse Tryd.underlying26 Tryd.underlying5 Tryd.underlying9 hc
        rw [List.length_reverse, hl] at h
        exact h
      have HCB := Aside0.mk hcb
      clear hcb
      go_enter Tryd.func8, Tryd.ntmps8
      go_wp2_with (first | (go_at_call 11; refine (impl_IsPath.calls a0 true _ At.out).mono ?_; rintro e w1 ⟨rfl, hb1⟩; have HB1 := Aside0.mk hb1; clear hb1) | (go_at_call 12; refine (impl_turned.calls a0 x _ Ax.out).mono ?_; rintro e w2 ⟨rfl, hb2⟩; have HB2 := Aside0.mk (show Below w.heap.size w w2 from HB1.out.trans (Below.mono hb2 HB1.out.size)); clear hb2) | (go_at_call 14; have HV := reverse_calls x.data.toList (by omega) w2.heap.size (grownCap w2 x.size 0 5) w _ HB2.out.size (Buf.new w2 x) (bytes_below HB2.out HB2.out.size 5 x); rw [hl] at HV; refine HV.mono ?_; rintro e w3 ⟨rfl, hc3, hb3⟩; have hcv := HCB.out _ (grownCap w2 x.size 0 5) _ hc3; have HB3 := Aside0.mk hb3; clear hc3 hb3))
      go_ret2
      exact ⟨by rw [← HR.out]; rfl, HB3.out⟩
    · rw [if_neg hx] at h
      cases h

/-! ### laws_FnExactBackPath: function 4 -/
def laws_FnExactBackPath.f (k : Nat) (a0 : ByteArray) : Option (Bool) := if (a0.size : Int) > 1048576 then (some true) else ((spec_BackPath.f k a0).bind fun bt108 => ((impl_BackPath.f a0).bind fun bt110 => (if bt110.1.toList = bt108.1.toList then (if (bt110.2 != bt108.2) = true then (some false) else (some true)) else (some false))))
theorem laws_FnExactBackPath.mono : ∀ a0 k, LeO (laws_FnExactBackPath.f k a0) (laws_FnExactBackPath.f (k + 1) a0) := by
  intro a0 k
  unfold laws_FnExactBackPath.f
  repeat' first
      | (with_reducible exact spec_BackPath.mono _ _)
      | (with_reducible exact LeO.refl _)
      | (with_reducible exact LeO.none _)
      | (with_reducible refine LeO.ite ?_ ?_)
      | (with_reducible refine LeO.bind ?_ (fun _ => ?_))
      | exact spec_BackPath.mono _ _
      | exact LeO.none _
      | refine LeO.ite ?_ ?_
      | refine LeO.bind ?_ (fun _ => ?_)
set_option maxHeartbeats 8000000 in
set_option maxRecDepth 100000 in
theorem laws_FnExactBackPath.calls (k : Nat) (a0 : ByteArray) (r : Bool) (w : World) (h : laws_FnExactBackPath.f k a0 = some r) :
    Calls Tryd.prog 4 #[.string a0] w fun e w' => e = .returned (.bool r) ∧ Below w.heap.size w w' := by
  have HB := Aside0.mk (Below.refl w.heap.size w)
  have H : (if (a0.size : Int) > 1048576 then (some true) else ((spec_BackPath.f k a0).bind fun bt108 => ((impl_BackPath.f a0).bind fun bt110 => (if bt110.1.toList = bt108.1.toList then (if (bt110.2 != bt108.2) = true then (some false) else (some true)) else (some false))))) = some r := h
  clear h
  by_cases c2 : (a0.size : Int) > 1048576
  · rw [if_pos c2] at H
    have c2b0 : decide (1048576 < (a0.size : Int)) = true := decide_eq_true c2
    have c2b1 : decide (1048576 < a0.size) = true := decide_eq_true (by omega)
    clear c2
    obtain rfl := Option.some.inj H
    go_enter Tryd.func4, Tryd.ntmps4
    go_wp2
    go_ret
    exact ⟨by first | rfl | (simp [errW_none, errW_some] <;> rfl) | (simp [*, errW_none, errW_some] <;> rfl), by repeat (first | (with_reducible first | exact HB.out | apply below_alloc | apply pw_below_drewN | apply below_drew1) | exact HB.out)⟩
  · rw [if_neg c2] at H
    have c2b0 : decide (1048576 < (a0.size : Int)) = false := decide_eq_false c2
    have c2b1 : decide (1048576 < a0.size) = false := decide_eq_false (by omega)
    clear c2
    replace H := Option.bind_eq_some_iff.mp H
    obtain ⟨⟨t108, t109⟩, A30, H⟩ := H
    replace H : ((impl_BackPath.f a0).bind fun bt110 => (if bt110.1.toList = t108.toList then (if (bt110.2 != t109) = true then (some false) else (some true)) else (some false))) = some r := H
    have A3 := Aside0.mk A30
    clear A30
    replace H := Option.bind_eq_some_iff.mp H
    obtain ⟨⟨t110, t111⟩, A40, H⟩ := H
    replace H : (if t110.toList = t108.toList then (if (t111 != t109) = true then (some false) else (some true)) else (some false)) = some r := H
    have A4 := Aside0.mk A40
    clear A40
    by_cases c5 : t110.toList = t108.toList
    · rw [if_pos c5] at H
      have c5b0 : (t110.toList == t108.toList) = true := beq_iff_eq.mpr c5
      have c5b1 : (t110.toList != t108.toList) = false := bne_eq_false_iff_eq.mpr c5
      clear c5
      by_cases c6 : (t111 != t109) = true
      · rw [if_pos c6] at H
        have c6b0 : (t111 != t109) = true := c6
        (try (have c6b1 : decide (t111 = t109) = false := by simpa using c6))
        (try (have c6b2 : (t111 == t109) = false := by simpa using c6))
        (try (have c6b3 : ¬ (t111 = t109) := by simpa using c6))
        clear c6
        obtain rfl := Option.some.inj H
        go_enter Tryd.func4, Tryd.ntmps4
        go_wp2_with (first | ((with_reducible refine gate_callee (f := 7) rfl ?_); refine goesL_ (some 12) rfl rfl Tryd.func7 (by kernel_rfl) rfl #[.string a0] rfl (by (try simp only [List.map_toArray, List.map_cons, List.map_nil]); first | done | rfl | (simp only [List.length_drop, List.length_take]; rfl)) ?_; (with_reducible refine (spec_BackPath.calls k a0 t108 t109 _ A3.out).mono ?_); rintro e w7 ⟨rfl, hb⟩; refine ⟨_, rfl, ?_⟩; have n0_ := Aside0.mk (below_step (by repeat (first | (with_reducible first | exact HB.out | apply below_alloc | apply pw_below_drewN | apply below_drew1) | exact HB.out)) hb); clear HB; have HB := n0_; clear n0_; (try clear hb); (try clear hb2); (try clear hk); (try clear hi)) | ((with_reducible refine gate_callee (f := 8) rfl ?_); refine goesL_ (some 17) rfl rfl Tryd.func8 (by kernel_rfl) rfl #[.string a0] rfl (by (try simp only [List.map_toArray, List.map_cons, List.map_nil]); first | done | rfl | (simp only [List.length_drop, List.length_take]; rfl)) ?_; (with_reducible refine (impl_BackPath.calls a0 t110 t111 _ A4.out).mono ?_); rintro e w8 ⟨rfl, hb⟩; refine ⟨_, rfl, ?_⟩; have n0_ := Aside0.mk (below_step (by repeat (first | (with_reducible first | exact HB.out | apply below_alloc | apply pw_below_drewN | apply below_drew1) | exact HB.out)) hb); clear HB; have HB := n0_; clear n0_; (try clear hb); (try clear hb2); (try clear hk); (try clear hi)))
        go_ret
        exact ⟨by first | rfl | (simp [errW_none, errW_some] <;> rfl) | (simp [*, errW_none, errW_some] <;> rfl), by repeat (first | (with_reducible first | exact HB.out | apply below_alloc | apply pw_below_drewN | apply below_drew1) | exact HB.out)⟩
      · rw [if_neg c6] at H
        have c6b0 : (t111 != t109) = false := by simpa using c6
        (try (have c6b1 : decide (t111 = t109) = true := by simpa using c6))
        (try (have c6b2 : (t111 == t109) = true := by simpa using c6))
        clear c6
        obtain rfl := Option.some.inj H
        go_enter Tryd.func4, Tryd.ntmps4
        go_wp2_with (first | ((with_reducible refine gate_callee (f := 7) rfl ?_); refine goesL_ (some 12) rfl rfl Tryd.func7 (by kernel_rfl) rfl #[.string a0] rfl (by (try simp only [List.map_toArray, List.map_cons, List.map_nil]); first | done | rfl | (simp only [List.length_drop, List.length_take]; rfl)) ?_; (with_reducible refine (spec_BackPath.calls k a0 t108 t109 _ A3.out).mono ?_); rintro e w9 ⟨rfl, hb⟩; refine ⟨_, rfl, ?_⟩; have n0_ := Aside0.mk (below_step (by repeat (first | (with_reducible first | exact HB.out | apply below_alloc | apply pw_below_drewN | apply below_drew1) | exact HB.out)) hb); clear HB; have HB := n0_; clear n0_; (try clear hb); (try clear hb2); (try clear hk); (try clear hi)) | ((with_reducible refine gate_callee (f := 8) rfl ?_); refine goesL_ (some 17) rfl rfl Tryd.func8 (by kernel_rfl) rfl #[.string a0] rfl (by (try simp only [List.map_toArray, List.map_cons, List.map_nil]); first | done | rfl | (simp only [List.length_drop, List.length_take]; rfl)) ?_; (with_reducible refine (impl_BackPath.calls a0 t110 t111 _ A4.out).mono ?_); rintro e w10 ⟨rfl, hb⟩; refine ⟨_, rfl, ?_⟩; have n0_ := Aside0.mk (below_step (by repeat (first | (with_reducible first | exact HB.out | apply below_alloc | apply pw_below_drewN | apply below_drew1) | exact HB.out)) hb); clear HB; have HB := n0_; clear n0_; (try clear hb); (try clear hb2); (try clear hk); (try clear hi)))
        go_ret
        exact ⟨by first | rfl | (simp [errW_none, errW_some] <;> rfl) | (simp [*, errW_none, errW_some] <;> rfl), by repeat (first | (with_reducible first | exact HB.out | apply below_alloc | apply pw_below_drewN | apply below_drew1) | exact HB.out)⟩
    · rw [if_neg c5] at H
      have c5b0 : (t110.toList == t108.toList) = false := beq_eq_false_iff_ne.mpr c5
      have c5b1 : (t110.toList != t108.toList) = true := bne_iff_ne.mpr c5
      obtain rfl := Option.some.inj H
      go_enter Tryd.func4, Tryd.ntmps4
      go_wp2_with (first | ((with_reducible refine gate_callee (f := 7) rfl ?_); refine goesL_ (some 12) rfl rfl Tryd.func7 (by kernel_rfl) rfl #[.string a0] rfl (by (try simp only [List.map_toArray, List.map_cons, List.map_nil]); first | done | rfl | (simp only [List.length_drop, List.length_take]; rfl)) ?_; (with_reducible refine (spec_BackPath.calls k a0 t108 t109 _ A3.out).mono ?_); rintro e w11 ⟨rfl, hb⟩; refine ⟨_, rfl, ?_⟩; have n0_ := Aside0.mk (below_step (by repeat (first | (with_reducible first | exact HB.out | apply below_alloc | apply pw_below_drewN | apply below_drew1) | exact HB.out)) hb); clear HB; have HB := n0_; clear n0_; (try clear hb); (try clear hb2); (try clear hk); (try clear hi)) | ((with_reducible refine gate_callee (f := 8) rfl ?_); refine goesL_ (some 17) rfl rfl Tryd.func8 (by kernel_rfl) rfl #[.string a0] rfl (by (try simp only [List.map_toArray, List.map_cons, List.map_nil]); first | done | rfl | (simp only [List.length_drop, List.length_take]; rfl)) ?_; (with_reducible refine (impl_BackPath.calls a0 t110 t111 _ A4.out).mono ?_); rintro e w12 ⟨rfl, hb⟩; refine ⟨_, rfl, ?_⟩; have n0_ := Aside0.mk (below_step (by repeat (first | (with_reducible first | exact HB.out | apply below_alloc | apply pw_below_drewN | apply below_drew1) | exact HB.out)) hb); clear HB; have HB := n0_; clear n0_; (try clear hb); (try clear hb2); (try clear hk); (try clear hi)))
      go_ret
      exact ⟨by first | rfl | (simp [errW_none, errW_some] <;> rfl) | (simp [*, errW_none, errW_some] <;> rfl), by repeat (first | (with_reducible first | exact HB.out | apply below_alloc | apply pw_below_drewN | apply below_drew1) | exact HB.out)⟩

/-- THE ONE PURE STATEMENT of laws_FnExactBackPath: yours. -/
def laws_FnExactBackPath.Pure : Prop := ∀ (a0 : ByteArray), a0.size ≤ 140737488351232 → ∃ k, laws_FnExactBackPath.f k a0 = some true
theorem laws_FnExactBackPath.walk (P : laws_FnExactBackPath.Pure) (a0 : ByteArray) (w : World) (w0 : a0.size ≤ 140737488351232) :
    Calls Tryd.prog 4 #[.string a0] w fun e w' => e = .returned (.bool true) ∧ Below w.heap.size w w' := by
  obtain ⟨k, h⟩ := P a0 w0
  refine (laws_FnExactBackPath.calls k a0 true w h).mono ?_
  rintro e w' ⟨rfl, hd⟩
  exact ⟨rfl, hd⟩

end Go.Proofs.YtlogghfgfokijaaDoor.PFnExactBackPath
