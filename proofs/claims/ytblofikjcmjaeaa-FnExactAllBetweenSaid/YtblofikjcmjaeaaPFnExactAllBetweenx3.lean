/- The walk of the statement FnExactAllBetween: each Go function that it reaches does what the Lean function of its name says; printed by a program of this session. -/
import Derived.Test.YtblofikjcmjaeaaPFnExactAllBetweenx0
import Derived.Test.YtblofikjcmjaeaaPFnExactAllBetweenx1
import Derived.Test.YtblofikjcmjaeaaPFnExactAllBetweenx2
namespace Go.Proofs.Ytblofikjcmjaeaa.PFnExactAllBetween
open Go.RowKit Go.Proofs.YtblofikjcmjaeaaW.PrintWords Go.Proofs.YtblofikjcmjaeaaW.PrintLast Go.Proofs.YtblofikjcmjaeaaW.PrintMore
attribute [local go_sem] max2_int min2_int max_two min_two max_three min_three max_four min_four   -- for this text's walks alone
set_option linter.unusedVariables false
set_option linter.unusedSimpArgs false

/-! ### spec_AllBetween: function 35 -/
theorem below_dn (B : Nat) (w : World) (n : Nat) : Below B w (w.drewN n) := ⟨rfl, rfl, rfl, Nat.le_refl _, fun _ _ => rfl⟩
/-- What is asked of the count. -/
structure OnF (out : Int → Int → Prop) [∀ u d, Decidable (out u d)] (a b : Int) (F : Int → Int → Int) : Prop where
  nn : ∀ u d, 0 ≤ F u d
  le : ∀ u d, F u d ≤ 1152921504606846976
  eq : ∀ u d, 0 ≤ u → u ≤ 41 → 0 ≤ d → d ≤ 41 → F u d = if u > a ∨ d > b ∨ out u d then 0 else if u = a ∧ d = b then 1 else F (u + 1) d + F u (d + 1)
/-- In how many ways it goes on to (a, b), no step being out. -/
def wayG (out : Int → Int → Prop) [∀ u d, Decidable (out u d)] (a b : Int) : Nat → Int → Int → Int
  | 0, _, _ => 0
  | n + 1, u, d => if u > a ∨ d > b ∨ out u d then 0 else if u = a ∧ d = b then 1 else wayG out a b n (u + 1) d + wayG out a b n u (d + 1)
def wayF (out : Int → Int → Prop) [∀ u d, Decidable (out u d)] (a b u d : Int) : Int := if a + b ≤ 40 ∧ 0 ≤ u ∧ 0 ≤ d then wayG out a b (a + b + 1 - u - d).toNat u d else 0
theorem wayF_in (out : Int → Int → Prop) [∀ u d, Decidable (out u d)] {a b u d : Int} (h : a + b ≤ 40 ∧ 0 ≤ u ∧ 0 ≤ d) : wayF out a b u d = wayG out a b (a + b + 1 - u - d).toNat u d := if_pos h
theorem wayG_nn (out : Int → Int → Prop) [∀ u d, Decidable (out u d)] (a b : Int) : ∀ (n : Nat) (u d : Int), 0 ≤ wayG out a b n u d
  | 0, _, _ => Int.le_refl _
  | n + 1, u, d => by
    unfold wayG
    have h1 := wayG_nn out a b n (u + 1) d
    have h2 := wayG_nn out a b n u (d + 1)
    split
    · exact Int.le_refl _
    · split <;> omega
theorem pow_mono2 : ∀ (m n : Nat), m ≤ n → (2 : Int) ^ m ≤ 2 ^ n := by
  intro m n h
  have := Nat.pow_le_pow_right (show 0 < 2 by decide) h
  exact_mod_cast this
theorem wayG_le (out : Int → Int → Prop) [∀ u d, Decidable (out u d)] (a b : Int) : ∀ (n : Nat) (u d : Int), wayG out a b n u d ≤ 2 ^ n
  | 0, _, _ => by simp [wayG]
  | n + 1, u, d => by
    unfold wayG
    have h1 := wayG_le out a b n (u + 1) d
    have h2 := wayG_le out a b n u (d + 1)
    have h3 : (1 : Int) ≤ 2 ^ n := by have := pow_mono2 0 n (Nat.zero_le _); simpa using this
    rw [Int.pow_succ]
    split
    · omega
    · split <;> omega
theorem wayF_on (out : Int → Int → Prop) [∀ u d, Decidable (out u d)] (a b : Int) (ha : 0 ≤ a) (hb : 0 ≤ b) (hab : a + b ≤ 40) : OnF out a b (wayF out a b) where
  nn := fun u d => by
    unfold wayF
    split
    · exact wayG_nn _ _ _ _ _ _
    · exact Int.le_refl _
  le := fun u d => by
    unfold wayF
    split
    · exact Int.le_trans (wayG_le out a b _ u d) (Int.le_trans (pow_mono2 _ 41 (by omega)) (by decide))
    · decide
  eq := fun u d h1 h2 h3 h4 => by
    by_cases ho : u > a ∨ d > b ∨ out u d
    · rw [if_pos ho]
      rw [wayF_in out ⟨hab, h1, h3⟩]
      cases h : (a + b + 1 - u - d).toNat with
      | zero => rfl
      | succ n => unfold wayG; rw [if_pos ho]
    · rw [if_neg ho]
      rw [wayF_in out (u := u) (d := d) ⟨hab, h1, h3⟩, wayF_in out (u := u + 1) (d := d) ⟨hab, by omega, h3⟩, wayF_in out (u := u) (d := d + 1) ⟨hab, h1, by omega⟩]
      have hu : ¬ u > a := fun h => ho (.inl h)
      have hd : ¬ d > b := fun h => ho (.inr (.inl h))
      obtain ⟨n, hn⟩ : ∃ n, (a + b + 1 - u - d).toNat = n + 1 := ⟨(a + b + 1 - u - d).toNat - 1, by omega⟩
      rw [hn, show (a + b + 1 - (u + 1) - d).toNat = n from by omega, show (a + b + 1 - u - (d + 1)).toNat = n from by omega]
      rw [wayG, if_neg ho]
/-- How many ways there are between walls. -/
def Nb (a b lo hi : Int) : Int := wayF (fun u d => ¬ (lo ≤ u - d ∧ u - d ≤ hi)) a b 0 0
theorem strOf_app (a b : List Int) : strOfNums (a ++ b) = strOfNums a ++ strOfNums b := by
  apply ByteArray.ext
  rw [ByteArray.data_append]
  unfold strOfNums
  simp
theorem strOf_cons (s : ByteArray) (c : Int) (u : UInt8) (h : strOfNums [c] = ⟨#[u]⟩) (x : List Int) : s ++ strOfNums (c :: x) = (s ++ (⟨#[u]⟩ : ByteArray)) ++ strOfNums x := by
  rw [show c :: x = [c] ++ x from rfl, strOf_app, h, ByteArray.append_assoc]
/-- The texts that the reference's search meets. -/
def Lk (k l : Int) : Nat → Int → Int → Int → List (List Int)
  | 0, _, _, _ => [[]]
  | n + 1, a, b, mg => (if 0 < b ∧ l ≤ mg - k then (Lk k l n a (b - 1) (mg - k)).map (68 :: ·) else []) ++ (if 0 < a then (Lk k l n (a - 1) b (mg + 1)).map (85 :: ·) else [])
/-- What is in the variable that the search fills. -/
structure OutB (g S : Nat) (w0 W : World) (v : Value) (xs : List ByteArray) : Prop where
  cell : W.cell? ⟨g, 0, none⟩ = some v
  froz : W.frozen? ⟨g, 0, none⟩ = false
  row : Kd.R Kd.string 9 W S (fun x => x ≠ g) v xs
  bel : Below S w0 W
/-- The texts that the reference's search between walls meets. -/
def Mk (low high : Int) : Nat → Int → Int → Int → List (List Int)
  | 0, z, x, y => if Nb x y (low - z) (high - z) = 0 then [] else [[]]
  | n + 1, z, x, y => if Nb x y (low - z) (high - z) = 0 then [] else (if 0 < y ∧ low ≤ z - 1 then (Mk low high n (z - 1) x (y - 1)).map (68 :: ·) else []) ++ (if 0 < x ∧ z + 1 ≤ high then (Mk low high n (z + 1) (x - 1) y).map (85 :: ·) else [])
theorem OutB.later {g S : Nat} {w0 W W' : World} {v : Value} {xs : List ByteArray} (h : OutB g S w0 W v xs) (hS : S ≤ W.heap.size) (hb : Below W.heap.size W W') : OutB g S w0 W' v xs :=
  ⟨(hb.cell (World.block_lt_of_cell? W _ h.cell)).trans h.cell, (hb.frozen (World.block_lt_of_cell? W _ h.cell)).trans h.froz, Kd.R_below h.row hb, h.bel.trans (hb.mono hS)⟩
/-- With so many rounds the alternating sum comes to the number of ways, wherever the search asks for it. -/
def MiK (k : Nat) : Prop := ∀ (x : Fin 41) (y : Fin 41) (p : Fin 101) (q : Fin 101), x.1 + y.1 ≤ 40 → spec_miCount.f k (((x.1 : Nat) : Int) + ((y.1 : Nat) : Int)) (((x.1 : Nat) : Int) - ((y.1 : Nat) : Int)) (-((p.1 : Nat) : Int)) ((q.1 : Nat) : Int) = some (Nb ((x.1 : Nat) : Int) ((y.1 : Nat) : Int) (-((p.1 : Nat) : Int)) ((q.1 : Nat) : Int))
instance (k : Nat) : Decidable (MiK k) := by unfold MiK; infer_instance
theorem MiK.at {k : Nat} (h : MiK k) (x y lo hi : Int) (hx : 0 ≤ x) (hy : 0 ≤ y) (hxy : x + y ≤ 40) (h1 : -100 ≤ lo) (h2 : lo ≤ 0) (h3 : 0 ≤ hi) (h4 : hi ≤ 100) : spec_miCount.f k (x + y) (x - y) lo hi = some (Nb x y lo hi) := by
  obtain ⟨a, rfl⟩ := Int.eq_ofNat_of_zero_le hx
  obtain ⟨b, rfl⟩ := Int.eq_ofNat_of_zero_le hy
  obtain ⟨q, rfl⟩ := Int.eq_ofNat_of_zero_le h3
  obtain ⟨p, hp⟩ := Int.eq_ofNat_of_zero_le (show 0 ≤ -lo by omega)
  obtain rfl : lo = -((p : Nat) : Int) := by omega
  exact h ⟨a, by omega⟩ ⟨b, by omega⟩ ⟨p, by omega⟩ ⟨q, by omega⟩ (by show a + b ≤ 40; omega)
set_option maxHeartbeats 32000000 in
set_option maxRecDepth 100000 in
theorem miLook.calls (K : Nat) (hM : MiK K) (g S : Nat) (hSg : S ≤ g) (w0 : World) (hS0 : S ≤ w0.heap.size) (low high : Int) (hl : -40 ≤ low ∧ low ≤ 0) (hh : 0 ≤ high ∧ high ≤ 40) : ∀ (n : Nat) (s : ByteArray) (z x y : Int) (W : World) (v : Value) (xs : List ByteArray), 0 ≤ x → 0 ≤ y → x + y = n → s.size + n ≤ 40 → low ≤ z → z ≤ high → xs.length + (Mk low high n z x y).length ≤ 300 → OutB g S w0 W v xs →
    Calls Try.prog 73 #[.string s, .int .i64 z, .int .i64 x, .int .i64 y, .int .i64 low, .int .i64 high, .pointer (some ⟨g, 0, none⟩)] W fun e w' => e = .returned (.tuple #[]) ∧ ∃ v', OutB g S w0 w' v' (xs ++ (Mk low high n z x y).map (fun t => s ++ strOfNums t)) := by
  intro n
  induction n with
  | zero =>
    intro s z x y W v xs ha hb hn hs hz1 hz2 hx ho
    obtain rfl : x = 0 := by omega
    obtain rfl : y = 0 := by omega
    have hK := hM.at 0 0 (low - z) (high - z) (by omega) (by omega) (by omega) (by omega) (by omega) (by omega) (by omega)
    have HK := Aside0.mk hK
    have HO := Aside0.mk ho
    have hSW := Nat.le_trans hS0 ho.bel.size
    obtain ⟨A, c, rfl⟩ := Kd.R_slice ho.row
    have hcell0 := ho.cell
    have HL := Aside0.mk (show xs.length ≤ 300 by omega)
    have e1 : Mk low high 0 z 0 0 = if Nb 0 0 (low - z) (high - z) = 0 then [] else [[]] := rfl
    clear ho hK hx hs hn ha hb
    by_cases hm : Nb 0 0 (low - z) (high - z) = 0
    · rw [if_pos hm] at e1
      rw [e1]
      have hmb : (Nb 0 0 (low - z) (high - z) == 0) = true := by rw [hm]; rfl
      clear hm e1
      go_enter Try.func73, Try.ntmps73
      go_wp2_with (first | (go_at_call 56; refine (spec_miCount.calls K (0 + 0) (0 - 0) (low - z) (high - z) _ _ HK.out).mono ?_; rintro e w1 ⟨rfl, hbl⟩; have HO1 := Aside0.mk (OutB.later HO.out hSW hbl); have hcell1 := HO1.out.cell; clear hbl))
      first | go_end0 | refine bodyPost_ret (results_none rfl _ _ _) rfl ?_
      exact ⟨rfl, _, by rw [List.map_nil, List.append_nil]; exact HO1.out⟩
    · rw [if_neg hm] at e1
      rw [e1]
      have hmb : (Nb 0 0 (low - z) (high - z) == 0) = false := by simpa using hm
      clear hm e1
      go_enter Try.func73, Try.ntmps73
      go_wp2_with (first | (go_at_call 56; refine (spec_miCount.calls K (0 + 0) (0 - 0) (low - z) (high - z) _ _ HK.out).mono ?_; rintro e w1 ⟨rfl, hbl⟩; have HO1 := Aside0.mk (OutB.later HO.out hSW hbl); have hcell1 := HO1.out.cell; clear hbl) | ((with_reducible refine gate_builtin (b := .append) (xs := #[.tmp 35, .tmp 37]) rfl ?_); at_builtin; refine Kd.R_append Kd.string (w0 := w1) S rfl (.tmp 35) (.tmp 37) 35 9 (.string ⟨#[]⟩) 16 rfl Try.underlying35 info9 rfl (by decide) (by omega) (.slice A xs.length c) xs s [.string s] (fun x => x ≠ g) (fun _ => False) rfl rfl ?aP (fun _ hk => hk.elim) ?aF ?aO ?aB ?aS ?aL ?_; (case aP => exact rfl); (case aB => exact (Below.refl _ _)); (case aF => exact (fun x hx => by have := World.block_lt_of_cell? _ _ HO1.out.cell; simp only at this; omega)); (case aO => exact HO1.out.row); (case aS => exact Nat.le_trans hS0 HO1.out.bel.size); (case aL => have := HL.out; omega); intro v126 w13 hr hb hg hat; have HR2 := Aside0.mk hr; have hc13 : w13.cell? ⟨g, 0, none⟩ = some (.slice A xs.length c) := cell_grown hg HO1.out.cell (fun e => HO1.out.row.1 g e.symm rfl); have hf13 : w13.frozen? ⟨g, 0, none⟩ = false := (World.frozen?_of_block (hg.block g (World.block_lt_of_cell? _ _ HO1.out.cell) (fun e => HO1.out.row.1 g e.symm rfl))).trans HO1.out.froz; have HB2 := Aside0.mk hb; obtain ⟨A13, c13, e13⟩ := Kd.R_slice hr; subst e13; clear hr hb hg hat))
      first | go_end0 | refine bodyPost_ret (results_none rfl _ _ _) rfl ?_
      refine ⟨rfl, _, World.cell?_setCell_same' _ _ _ (by rw [hc13]; rfl), by rw [World.frozen?_setCell]; exact hf13, ?_, (HO1.out.bel.trans HB2.out).setCell hSg _⟩
      have e2 : xs ++ ([[]] : List (List Int)).map (fun t => s ++ strOfNums t) = xs ++ [s] := by
        simp only [List.map_cons, List.map_nil]
        congr 2
        rw [show strOfNums [] = (ByteArray.empty) from rfl, ByteArray.append_empty]
      rw [e2]
      have h_ := Kd.R_far HR2.out (p := ⟨g, 0, none⟩) (fun x hx => hx) (.slice A13 (xs.length + 1) c13)
      rw [List.length_append, List.length_singleton] at h_
      exact h_
  | succ n ih =>
    intro s z x y W v xs ha hb hn hs hz1 hz2 hx ho
    have hK := hM.at x y (low - z) (high - z) ha hb (by omega) (by omega) (by omega) (by omega) (by omega)
    have HK := Aside0.mk hK
    have HO := Aside0.mk ho
    have hSW := Nat.le_trans hS0 ho.bel.size
    obtain ⟨A, c, rfl⟩ := Kd.R_slice ho.row
    have hcell0 := ho.cell
    have HL := Aside0.mk (show xs.length ≤ 300 by omega)
    have ha40 : x ≤ 40 := by omega
    have hb40 : y ≤ 40 := by omega
    have hsum : ((x + y) == 0) = false := by simp; omega
    have hsz : decide (s.size + 1 ≤ 9223372036854775807) = true := decide_eq_true (by omega)
    have hsz2 : (9223372036854775807 < s.size + 1) = False := eq_false (by omega)
    have s1 : (s ++ (⟨#[68]⟩ : ByteArray)).size + n ≤ 40 := by rw [ByteArray.size_append]; show s.size + 1 + n ≤ 40; omega
    have s2 : (s ++ (⟨#[85]⟩ : ByteArray)).size + n ≤ 40 := by rw [ByteArray.size_append]; show s.size + 1 + n ≤ 40; omega
    have HMk := Aside0.mk (show Mk low high (n + 1) z x y = if Nb x y (low - z) (high - z) = 0 then [] else (if 0 < y ∧ low ≤ z - 1 then (Mk low high n (z - 1) x (y - 1)).map (68 :: ·) else []) ++ (if 0 < x ∧ z + 1 ≤ high then (Mk low high n (z + 1) (x - 1) y).map (85 :: ·) else []) from rfl)
    have mD : ∀ q : List (List Int), (q.map (68 :: ·)).map (fun t => s ++ strOfNums t) = q.map (fun t => (s ++ (⟨#[68]⟩ : ByteArray)) ++ strOfNums t) := fun q => by rw [List.map_map]; exact List.map_congr_left (fun t _ => strOf_cons s 68 68 rfl t)
    have mU : ∀ q : List (List Int), (q.map (85 :: ·)).map (fun t => s ++ strOfNums t) = q.map (fun t => (s ++ (⟨#[85]⟩ : ByteArray)) ++ strOfNums t) := fun q => by rw [List.map_map]; exact List.map_congr_left (fun t _ => strOf_cons s 85 85 rfl t)
    have HmD := Aside0.mk mD
    have HmU := Aside0.mk mU
    have Hih := Aside0.mk ih
    have Hpre := Aside0.mk (And.intro s1 s2)
    have hx' := Aside0.mk hx
    clear mD mU ih s1 s2 hx ho hK
    by_cases hm : Nb x y (low - z) (high - z) = 0
    · have e1 := HMk.out
      rw [if_pos hm] at e1
      rw [e1]
      have hmb : (Nb x y (low - z) (high - z) == 0) = true := by rw [hm]; rfl
      clear hm e1 hn hs
      go_enter Try.func73, Try.ntmps73
      go_wp2_with (first | (go_at_call 56; refine (spec_miCount.calls K (x + y) (x - y) (low - z) (high - z) _ _ HK.out).mono ?_; rintro e w1 ⟨rfl, hbl⟩; have HO1 := Aside0.mk (OutB.later HO.out hSW hbl); have hcell1 := HO1.out.cell; clear hbl))
      first | go_end0 | refine bodyPost_ret (results_none rfl _ _ _) rfl ?_
      exact ⟨rfl, _, by rw [List.map_nil, List.append_nil]; exact HO1.out⟩
    · have hmb : (Nb x y (low - z) (high - z) == 0) = false := by simpa using hm
      have e0 := HMk.out
      rw [if_neg hm] at e0
      clear hm HMk
      by_cases hy : 0 < y
      · have yb : decide (y > 0) = true := decide_eq_true hy
        have yc : decide (0 < y) = true := decide_eq_true hy
        by_cases hlo : low ≤ z - 1
        · have lb : decide (z - 1 ≥ low) = true := decide_eq_true hlo
          have lc : decide (low ≤ z - 1) = true := decide_eq_true hlo
          by_cases hx0 : 0 < x
          · have xb : decide (x > 0) = true := decide_eq_true hx0
            have xc : decide (0 < x) = true := decide_eq_true hx0
            by_cases hhi : z + 1 ≤ high
            · have hb1 : decide (z + 1 ≤ high) = true := decide_eq_true hhi
              have e1 := e0
              rw [if_pos ⟨hy, hlo⟩, if_pos ⟨hx0, hhi⟩] at e1
              have hx2 := hx'.out
              rw [e1, List.length_append, List.length_map, List.length_map] at hx2
              have CD := Aside0.mk (fun W' v' (h : OutB g S w0 W' v' xs) => Hih.out (s ++ (⟨#[68]⟩ : ByteArray)) (z - 1) x (y - 1) W' v' xs ha (by omega) (by omega) Hpre.out.1 (by omega) (by omega) (by omega) h)
              have CU := Aside0.mk (fun W' v' (h : OutB g S w0 W' v' (xs ++ (Mk low high n (z - 1) x (y - 1)).map (fun t => (s ++ (⟨#[68]⟩ : ByteArray)) ++ strOfNums t))) => Hih.out (s ++ (⟨#[85]⟩ : ByteArray)) (z + 1) (x - 1) y W' v' _ (by omega) hb (by omega) Hpre.out.2 (by omega) (by omega) (by rw [List.length_append, List.length_map]; omega) h)
              have E1 := Aside0.mk e1
              clear e1 e0 hn hs hx2
              go_enter Try.func73, Try.ntmps73
              go_wp2_with (first | (go_at_call 56; refine (spec_miCount.calls K (x + y) (x - y) (low - z) (high - z) _ _ HK.out).mono ?_; rintro e w1 ⟨rfl, hbl⟩; have HO1 := Aside0.mk (OutB.later HO.out hSW hbl); have hcell1 := HO1.out.cell; clear hbl) | (go_at_call 73; refine (CD.out _ _ HO1.out).mono ?_; clear CD; rintro e w2 ⟨rfl, v2, ho2⟩; have HO2 := Aside0.mk ho2; clear ho2) | (go_at_call 73; refine (CU.out _ _ HO2.out).mono ?_; rintro e w3 ⟨rfl, v3, ho3⟩; have HO3 := Aside0.mk ho3; clear ho3))
              first | go_end0 | refine bodyPost_ret (results_none rfl _ _ _) rfl ?_
              refine ⟨rfl, v3, ?_⟩
              rw [E1.out, List.map_append, HmD.out, HmU.out, ← List.append_assoc]
              exact HO3.out
            · have hb1 : decide (z + 1 ≤ high) = false := decide_eq_false hhi
              have NU : ¬ (0 < x ∧ z + 1 ≤ high) := fun h => hhi h.2
              have e1 := e0
              rw [if_pos ⟨hy, hlo⟩, if_neg NU, List.append_nil] at e1
              have hx2 := hx'.out
              rw [e1, List.length_map] at hx2
              have CD := Aside0.mk (fun W' v' (h : OutB g S w0 W' v' xs) => Hih.out (s ++ (⟨#[68]⟩ : ByteArray)) (z - 1) x (y - 1) W' v' xs ha (by omega) (by omega) Hpre.out.1 (by omega) (by omega) (by omega) h)
              have E1 := Aside0.mk e1
              clear e1 e0 hn hs hx2
              go_enter Try.func73, Try.ntmps73
              go_wp2_with (first | (go_at_call 56; refine (spec_miCount.calls K (x + y) (x - y) (low - z) (high - z) _ _ HK.out).mono ?_; rintro e w1 ⟨rfl, hbl⟩; have HO1 := Aside0.mk (OutB.later HO.out hSW hbl); have hcell1 := HO1.out.cell; clear hbl) | (go_at_call 73; refine (CD.out _ _ HO1.out).mono ?_; clear CD; rintro e w2 ⟨rfl, v2, ho2⟩; have HO2 := Aside0.mk ho2; clear ho2))
              first | go_end0 | refine bodyPost_ret (results_none rfl _ _ _) rfl ?_
              refine ⟨rfl, v2, ?_⟩
              rw [E1.out, HmD.out]
              exact HO2.out
          · have xb : decide (x > 0) = false := decide_eq_false hx0
            have xc : decide (0 < x) = false := decide_eq_false hx0
            have NU : ¬ (0 < x ∧ z + 1 ≤ high) := fun h => hx0 h.1
            have e1 := e0
            rw [if_pos ⟨hy, hlo⟩, if_neg NU, List.append_nil] at e1
            have hx2 := hx'.out
            rw [e1, List.length_map] at hx2
            have CD := Aside0.mk (fun W' v' (h : OutB g S w0 W' v' xs) => Hih.out (s ++ (⟨#[68]⟩ : ByteArray)) (z - 1) x (y - 1) W' v' xs ha (by omega) (by omega) Hpre.out.1 (by omega) (by omega) (by omega) h)
            have E1 := Aside0.mk e1
            clear e1 e0 hn hs hx2
            go_enter Try.func73, Try.ntmps73
            go_wp2_with (first | (go_at_call 56; refine (spec_miCount.calls K (x + y) (x - y) (low - z) (high - z) _ _ HK.out).mono ?_; rintro e w1 ⟨rfl, hbl⟩; have HO1 := Aside0.mk (OutB.later HO.out hSW hbl); have hcell1 := HO1.out.cell; clear hbl) | (go_at_call 73; refine (CD.out _ _ HO1.out).mono ?_; clear CD; rintro e w2 ⟨rfl, v2, ho2⟩; have HO2 := Aside0.mk ho2; clear ho2))
            first | go_end0 | refine bodyPost_ret (results_none rfl _ _ _) rfl ?_
            refine ⟨rfl, v2, ?_⟩
            rw [E1.out, HmD.out]
            exact HO2.out
        · have lb : decide (z - 1 ≥ low) = false := decide_eq_false hlo
          have lc : decide (low ≤ z - 1) = false := decide_eq_false hlo
          have ND : ¬ (0 < y ∧ low ≤ z - 1) := fun h => hlo h.2
          by_cases hx0 : 0 < x
          · have xb : decide (x > 0) = true := decide_eq_true hx0
            have xc : decide (0 < x) = true := decide_eq_true hx0
            by_cases hhi : z + 1 ≤ high
            · have hb1 : decide (z + 1 ≤ high) = true := decide_eq_true hhi
              have e1 := e0
              rw [if_neg ND, if_pos ⟨hx0, hhi⟩, List.nil_append] at e1
              have hx2 := hx'.out
              rw [e1, List.length_map] at hx2
              have CU := Aside0.mk (fun W' v' (h : OutB g S w0 W' v' xs) => Hih.out (s ++ (⟨#[85]⟩ : ByteArray)) (z + 1) (x - 1) y W' v' xs (by omega) hb (by omega) Hpre.out.2 (by omega) (by omega) (by omega) h)
              have E1 := Aside0.mk e1
              clear e1 e0 hn hs hx2
              go_enter Try.func73, Try.ntmps73
              go_wp2_with (first | (go_at_call 56; refine (spec_miCount.calls K (x + y) (x - y) (low - z) (high - z) _ _ HK.out).mono ?_; rintro e w1 ⟨rfl, hbl⟩; have HO1 := Aside0.mk (OutB.later HO.out hSW hbl); have hcell1 := HO1.out.cell; clear hbl) | (go_at_call 73; refine (CU.out _ _ HO1.out).mono ?_; rintro e w3 ⟨rfl, v3, ho3⟩; have HO3 := Aside0.mk ho3; clear ho3))
              first | go_end0 | refine bodyPost_ret (results_none rfl _ _ _) rfl ?_
              refine ⟨rfl, v3, ?_⟩
              rw [E1.out, HmU.out]
              exact HO3.out
            · have hb1 : decide (z + 1 ≤ high) = false := decide_eq_false hhi
              have NU : ¬ (0 < x ∧ z + 1 ≤ high) := fun h => hhi h.2
              have e1 := e0
              rw [if_neg ND, if_neg NU, List.append_nil] at e1
              have E1 := Aside0.mk e1
              clear e1 e0 hn hs
              go_enter Try.func73, Try.ntmps73
              go_wp2_with (first | (go_at_call 56; refine (spec_miCount.calls K (x + y) (x - y) (low - z) (high - z) _ _ HK.out).mono ?_; rintro e w1 ⟨rfl, hbl⟩; have HO1 := Aside0.mk (OutB.later HO.out hSW hbl); have hcell1 := HO1.out.cell; clear hbl))
              first | go_end0 | refine bodyPost_ret (results_none rfl _ _ _) rfl ?_
              exact ⟨rfl, _, by rw [E1.out, List.map_nil, List.append_nil]; exact HO1.out⟩
          · have xb : decide (x > 0) = false := decide_eq_false hx0
            have xc : decide (0 < x) = false := decide_eq_false hx0
            have NU : ¬ (0 < x ∧ z + 1 ≤ high) := fun h => hx0 h.1
            have e1 := e0
            rw [if_neg ND, if_neg NU, List.append_nil] at e1
            have E1 := Aside0.mk e1
            clear e1 e0 hn hs
            go_enter Try.func73, Try.ntmps73
            go_wp2_with (first | (go_at_call 56; refine (spec_miCount.calls K (x + y) (x - y) (low - z) (high - z) _ _ HK.out).mono ?_; rintro e w1 ⟨rfl, hbl⟩; have HO1 := Aside0.mk (OutB.later HO.out hSW hbl); have hcell1 := HO1.out.cell; clear hbl))
            first | go_end0 | refine bodyPost_ret (results_none rfl _ _ _) rfl ?_
            exact ⟨rfl, _, by rw [E1.out, List.map_nil, List.append_nil]; exact HO1.out⟩
      · have yb : decide (y > 0) = false := decide_eq_false hy
        have yc : decide (0 < y) = false := decide_eq_false hy
        have ND : ¬ (0 < y ∧ low ≤ z - 1) := fun h => hy h.1
        by_cases hx0 : 0 < x
        · have xb : decide (x > 0) = true := decide_eq_true hx0
          have xc : decide (0 < x) = true := decide_eq_true hx0
          by_cases hhi : z + 1 ≤ high
          · have hb1 : decide (z + 1 ≤ high) = true := decide_eq_true hhi
            have e1 := e0
            rw [if_neg ND, if_pos ⟨hx0, hhi⟩, List.nil_append] at e1
            have hx2 := hx'.out
            rw [e1, List.length_map] at hx2
            have CU := Aside0.mk (fun W' v' (h : OutB g S w0 W' v' xs) => Hih.out (s ++ (⟨#[85]⟩ : ByteArray)) (z + 1) (x - 1) y W' v' xs (by omega) hb (by omega) Hpre.out.2 (by omega) (by omega) (by omega) h)
            have E1 := Aside0.mk e1
            clear e1 e0 hn hs hx2
            go_enter Try.func73, Try.ntmps73
            go_wp2_with (first | (go_at_call 56; refine (spec_miCount.calls K (x + y) (x - y) (low - z) (high - z) _ _ HK.out).mono ?_; rintro e w1 ⟨rfl, hbl⟩; have HO1 := Aside0.mk (OutB.later HO.out hSW hbl); have hcell1 := HO1.out.cell; clear hbl) | (go_at_call 73; refine (CU.out _ _ HO1.out).mono ?_; rintro e w3 ⟨rfl, v3, ho3⟩; have HO3 := Aside0.mk ho3; clear ho3))
            first | go_end0 | refine bodyPost_ret (results_none rfl _ _ _) rfl ?_
            refine ⟨rfl, v3, ?_⟩
            rw [E1.out, HmU.out]
            exact HO3.out
          · have hb1 : decide (z + 1 ≤ high) = false := decide_eq_false hhi
            have NU : ¬ (0 < x ∧ z + 1 ≤ high) := fun h => hhi h.2
            have e1 := e0
            rw [if_neg ND, if_neg NU, List.append_nil] at e1
            have E1 := Aside0.mk e1
            clear e1 e0 hn hs
            go_enter Try.func73, Try.ntmps73
            go_wp2_with (first | (go_at_call 56; refine (spec_miCount.calls K (x + y) (x - y) (low - z) (high - z) _ _ HK.out).mono ?_; rintro e w1 ⟨rfl, hbl⟩; have HO1 := Aside0.mk (OutB.later HO.out hSW hbl); have hcell1 := HO1.out.cell; clear hbl))
            first | go_end0 | refine bodyPost_ret (results_none rfl _ _ _) rfl ?_
            exact ⟨rfl, _, by rw [E1.out, List.map_nil, List.append_nil]; exact HO1.out⟩
        · have xb : decide (x > 0) = false := decide_eq_false hx0
          have xc : decide (0 < x) = false := decide_eq_false hx0
          have NU : ¬ (0 < x ∧ z + 1 ≤ high) := fun h => hx0 h.1
          have e1 := e0
          rw [if_neg ND, if_neg NU, List.append_nil] at e1
          have E1 := Aside0.mk e1
          clear e1 e0 hn hs
          go_enter Try.func73, Try.ntmps73
          go_wp2_with (first | (go_at_call 56; refine (spec_miCount.calls K (x + y) (x - y) (low - z) (high - z) _ _ HK.out).mono ?_; rintro e w1 ⟨rfl, hbl⟩; have HO1 := Aside0.mk (OutB.later HO.out hSW hbl); have hcell1 := HO1.out.cell; clear hbl))
          first | go_end0 | refine bodyPost_ret (results_none rfl _ _ _) rfl ?_
          exact ⟨rfl, _, by rw [E1.out, List.map_nil, List.append_nil]; exact HO1.out⟩
theorem fresh_cell (w : World) (v : Value) (t : Nat) : (w.alloc (.cells #[v] t)).cell? ⟨w.heap.size, 0, none⟩ = some v ∧ (w.alloc (.cells #[v] t)).frozen? ⟨w.heap.size, 0, none⟩ = false := by
  have h : (w.alloc (.cells #[v] t)).heap[w.heap.size]? = some (.cells #[v] t (0, 0)) := by
    show (w.heap.push _)[w.heap.size]? = _
    exact Array.getElem?_push_size
  exact ⟨cell_of_one h, free_of_one h⟩
theorem miLook.top (K : Nat) (hM : MiK K) (S : Nat) (w0 W : World) (hS : S ≤ W.heap.size) (hS0 : S ≤ w0.heap.size) (hb0 : Below S w0 W) (low high a b : Int) (hl : -40 ≤ low ∧ low ≤ 0) (hh : 0 ≤ high ∧ high ≤ 40) (hs : 0 ≤ a ∧ a ≤ 40 ∧ 0 ≤ b ∧ b ≤ 40 ∧ a + b ≤ 40) (hx : (Mk low high (a + b).toNat 0 a b).length ≤ 300) :
    Calls Try.prog 73 #[.string ⟨#[]⟩, .int .i64 0, .int .i64 a, .int .i64 b, .int .i64 low, .int .i64 high, .pointer (some ⟨W.heap.size, 0, none⟩)] (W.alloc (.cells #[.slice none 0 0] 35)) fun e w' => e = .returned (.tuple #[]) ∧ ∃ v', OutB W.heap.size S w0 w' v' ((Mk low high (a + b).toNat 0 a b).map strOfNums) := by
  have hc := fresh_cell W (.slice none 0 0) 35
  have ho : OutB W.heap.size S w0 (W.alloc (.cells #[.slice none 0 0] 35)) (.slice none 0 0) [] := ⟨hc.1, hc.2, Kd.R_nil _ _ _ _ _, hb0.alloc hS _⟩
  refine (miLook.calls K hM W.heap.size S hS w0 hS0 low high hl hh (a + b).toNat ⟨#[]⟩ 0 a b _ _ [] hs.1 hs.2.2.1 (by omega) (by show 0 + _ ≤ 40; omega) hl.2 hh.1 (by rw [List.length_nil]; omega) ho).mono ?_
  rintro e w' ⟨he, v', h'⟩
  refine ⟨he, v', ?_⟩
  have e2 : [] ++ (Mk low high (a + b).toNat 0 a b).map (fun x => (⟨#[]⟩ : ByteArray) ++ strOfNums x) = (Mk low high (a + b).toNat 0 a b).map strOfNums := by
    rw [List.nil_append]
    exact List.map_congr_left (fun x _ => ByteArray.empty_append)
  rw [e2] at h'
  exact h'
def spec_AllBetween.f (k : Nat) (a0 a1 a2 a3 : Int) : Option (List ByteArray × Bool) := (spec_paSteps.f a0 a1).bind fun t => if t = true then ((spec_miWalls.f a2 a3).bind fun t' => if t' = true then (if MiK k then (if Nb a0 a1 a2 a3 > 300 then some ([], false) else if (Mk a2 a3 (a0 + a1).toNat 0 a0 a1).length ≤ 300 then some ((Mk a2 a3 (a0 + a1).toNat 0 a0 a1).map strOfNums, true) else none) else none) else some ([], false)) else some ([], false)
theorem MiK.mono {k : Nat} (h : MiK k) : MiK (k + 1) := fun x y p q hxy => spec_miCount.mono _ _ _ _ _ _ (h x y p q hxy)
theorem spec_AllBetween.mono : ∀ a0 a1 a2 a3 k, LeO (spec_AllBetween.f k a0 a1 a2 a3) (spec_AllBetween.f (k + 1) a0 a1 a2 a3) := by
  intro a0 a1 a2 a3 k
  unfold spec_AllBetween.f
  refine LeO.bind (LeO.refl _) (fun t => ?_)
  refine LeO.ite ?_ (LeO.refl _)
  refine LeO.bind (LeO.refl _) (fun t' => ?_)
  refine LeO.ite ?_ (LeO.refl _)
  intro r h
  by_cases c : MiK k
  · rw [if_pos c] at h; rw [if_pos c.mono]; exact h
  · rw [if_neg c] at h; cases h
theorem specsteps_of {a b : Int} (h : spec_paSteps.f a b = some true) : 0 ≤ a ∧ a ≤ 40 ∧ 0 ≤ b ∧ b ≤ 40 ∧ a + b ≤ 40 := by
  unfold spec_paSteps.f spec_l1In.f at h
  by_cases h1 : a ≥ 0
  · by_cases h2 : a ≤ 40
    · by_cases h3 : b ≥ 0
      · by_cases h4 : b ≤ 40
        · simp [h1, h2, h3, h4] at h
          unfold wrap64 at h
          omega
        · simp [h1, h2, h3, h4] at h
      · simp [h1, h2, h3] at h
    · simp [h1, h2] at h
  · simp [h1] at h
theorem specwalls_of {a b : Int} (h : spec_miWalls.f a b = some true) : -40 ≤ a ∧ a ≤ 0 ∧ 0 ≤ b ∧ b ≤ 40 := by
  unfold spec_miWalls.f spec_l1In.f at h
  by_cases h1 : a ≥ -40
  · by_cases h2 : a ≤ 0
    · by_cases h3 : b ≥ 0
      · by_cases h4 : b ≤ 40
        · exact ⟨h1, h2, h3, h4⟩
        · simp [h1, h2, h3, h4] at h
      · simp [h1, h2, h3] at h
    · simp [h1, h2] at h
  · simp [h1] at h
set_option maxHeartbeats 8000000 in
set_option maxRecDepth 100000 in
theorem spec_AllBetween.calls (k : Nat) (a0 a1 a2 a3 : Int) (r1 : List ByteArray) (r2 : Bool) (w : World) (h : spec_AllBetween.f k a0 a1 a2 a3 = some (r1, r2)) :
    Calls Try.prog 35 #[.int .i64 a0, .int .i64 a1, .int .i64 a2, .int .i64 a3] w fun e w' => ∃ v0_ : Value, e = .returned (.tuple #[v0_, .bool r2]) ∧ Kd.R Kd.string 9 w' w.heap.size (fun _ => True) v0_ r1 ∧ Below w.heap.size w w' := by
  unfold spec_AllBetween.f at h
  replace h := Option.bind_eq_some_iff.mp h
  obtain ⟨t, At0, h⟩ := h
  have At := Aside0.mk At0
  cases t with
  | false =>
    clear At0
    simp only [Bool.false_eq_true, if_false, Option.some.injEq, Prod.mk.injEq] at h
    obtain ⟨rfl, rfl⟩ := h
    go_enter Try.func35, Try.ntmps35
    go_wp2_with (first | (go_at_call 49; refine (spec_paSteps.calls a0 a1 false _ At.out).mono ?_; rintro e w' ⟨rfl, ⟨nd, rfl⟩⟩))
    go_ret2
    exact ⟨_, rfl, Kd.R_nil _ _ _ _ _, by repeat (first | exact Below.refl _ _ | apply pw_below_drewN)⟩
  | true =>
    have hs := specsteps_of At0
    clear At0
    simp only [if_true] at h
    replace h := Option.bind_eq_some_iff.mp h
    obtain ⟨t', Aw0, h⟩ := h
    have Aw := Aside0.mk Aw0
    cases t' with
    | false =>
      clear Aw0
      simp only [Bool.false_eq_true, if_false, Option.some.injEq, Prod.mk.injEq] at h
      obtain ⟨rfl, rfl⟩ := h
      go_enter Try.func35, Try.ntmps35
      go_wp2_with (first | (go_at_call 49; refine (spec_paSteps.calls a0 a1 true _ At.out).mono ?_; rintro e w' ⟨rfl, ⟨nd, rfl⟩⟩) | (go_at_call 55; refine (spec_miWalls.calls a2 a3 false _ Aw.out).mono ?_; rintro e w' ⟨rfl, ⟨nd2, rfl⟩⟩))
      go_ret2
      exact ⟨_, rfl, Kd.R_nil _ _ _ _ _, by repeat (first | exact Below.refl _ _ | apply pw_below_drewN)⟩
    | true =>
      have hwl := specwalls_of Aw0
      clear Aw0
      simp only [if_true] at h
      by_cases hM : MiK k
      · rw [if_pos hM] at h
        have HK := Aside0.mk (hM.at a0 a1 a2 a3 hs.1 hs.2.2.1 hs.2.2.2.2 (by omega) hwl.2.1 hwl.2.2.1 (by omega))
        have HM := Aside0.mk hM
        have HV := Aside0.mk (And.intro hs hwl)
        clear hM
        by_cases hq : Nb a0 a1 a2 a3 > 300
        · rw [if_pos hq] at h
          simp only [Option.some.injEq, Prod.mk.injEq] at h
          obtain ⟨rfl, rfl⟩ := h
          have hqb : decide (Nb a0 a1 a2 a3 > 300) = true := decide_eq_true hq
          have hqc : decide (300 < Nb a0 a1 a2 a3) = true := decide_eq_true hq
          go_enter Try.func35, Try.ntmps35
          go_wp2_with (first | (go_at_call 49; refine (spec_paSteps.calls a0 a1 true _ At.out).mono ?_; rintro e w' ⟨rfl, ⟨nd, rfl⟩⟩) | (go_at_call 55; refine (spec_miWalls.calls a2 a3 true _ Aw.out).mono ?_; rintro e w' ⟨rfl, ⟨nd2, rfl⟩⟩) | (go_at_call 56; refine (spec_miCount.calls k (a0 + a1) (a0 - a1) a2 a3 _ _ HK.out).mono ?_; rintro e w1 ⟨rfl, hbl⟩; have HB1 := Aside0.mk (show Below w.heap.size w w1 from (below_dn _ _ _).trans hbl); clear hbl))
          go_ret2
          exact ⟨_, rfl, Kd.R_nil _ _ _ _ _, HB1.out⟩
        · rw [if_neg hq] at h
          by_cases hlk : (Mk a2 a3 (a0 + a1).toNat 0 a0 a1).length ≤ 300
          · rw [if_pos hlk] at h
            simp only [Option.some.injEq, Prod.mk.injEq] at h
            obtain ⟨hr1, rfl⟩ := h
            have HR1 := Aside0.mk hr1
            have HLk := Aside0.mk hlk
            have hqb : decide (Nb a0 a1 a2 a3 > 300) = false := decide_eq_false hq
            have hqc : decide (300 < Nb a0 a1 a2 a3) = false := decide_eq_false hq
            clear hr1 hlk hq
            go_enter Try.func35, Try.ntmps35
            go_wp2_with (first | (go_at_call 49; refine (spec_paSteps.calls a0 a1 true _ At.out).mono ?_; rintro e w' ⟨rfl, ⟨nd, rfl⟩⟩) | (go_at_call 55; refine (spec_miWalls.calls a2 a3 true _ Aw.out).mono ?_; rintro e w' ⟨rfl, ⟨nd2, rfl⟩⟩) | (go_at_call 56; refine (spec_miCount.calls k (a0 + a1) (a0 - a1) a2 a3 _ _ HK.out).mono ?_; rintro e w1 ⟨rfl, hbl⟩; have HB1 := Aside0.mk (show Below w.heap.size w w1 from (below_dn _ _ _).trans hbl); clear hbl) | (go_at_call 73; refine (miLook.top k HM.out w.heap.size w w1 HB1.out.size (Nat.le_refl _) HB1.out a2 a3 a0 a1 ⟨HV.out.2.1, HV.out.2.2.1⟩ HV.out.2.2.2 HV.out.1 HLk.out).mono ?_; rintro e w2 ⟨rfl, v2, ho2⟩; have HO2 := Aside0.mk ho2; have hc2 := ho2.cell; clear ho2))
            go_ret2
            exact ⟨v2, rfl, by rw [← HR1.out]; exact Kd.R_mono HO2.out.row (fun _ _ => trivial), HO2.out.bel⟩
          · rw [if_neg hlk] at h
            cases h
      · rw [if_neg hM] at h
        cases h

/-! ### impl_in: function 60 -/
def impl_in.f (a0 : Int) (a1 : Int) (a2 : Int) : Option (Bool) := if a1 ≤ a0 then (some (decide (a0 ≤ a2))) else (some false)
set_option maxHeartbeats 8000000 in
set_option maxRecDepth 100000 in
theorem impl_in.calls (a0 : Int) (a1 : Int) (a2 : Int) (r : Bool) (w : World) (h : impl_in.f a0 a1 a2 = some r) :
    Calls Try.prog 60 #[.int .i64 a0, .int .i64 a1, .int .i64 a2] w fun e w' => e = .returned (.bool r) ∧ Drawn0 w w' := by
  have H : (if a1 ≤ a0 then (some (decide (a0 ≤ a2))) else (some false)) = some r := h
  clear h
  by_cases c4 : a1 ≤ a0
  · rw [if_pos c4] at H
    have c4b0 : decide (a1 ≤ a0) = true := decide_eq_true c4
    clear c4
    obtain rfl := Option.some.inj H
    go_enter Try.func60, Try.ntmps60
    go_wp2
    go_ret
    exact ⟨by first | rfl | (simp; done) | (simp [*]; done), by repeat (first | exact Drawn0.refl _ | apply Drawn0.step)⟩
  · rw [if_neg c4] at H
    have c4b0 : decide (a1 ≤ a0) = false := decide_eq_false c4
    clear c4
    obtain rfl := Option.some.inj H
    go_enter Try.func60, Try.ntmps60
    go_wp2
    go_ret
    exact ⟨by first | rfl | (simp; done) | (simp [*]; done), by repeat (first | exact Drawn0.refl _ | apply Drawn0.step)⟩

/-! ### impl_areSteps: function 52 -/
def impl_areSteps.f (a0 : Int) (a1 : Int) : Option (Bool) := (impl_in.f a0 0 40).bind fun t129 => (if t129 = true then ((impl_in.f a1 0 40).bind fun t130 => (if t130 = true then (some (decide ((wrap64 (a0 + a1)) ≤ 40))) else (some false))) else (some false))
set_option maxHeartbeats 8000000 in
set_option maxRecDepth 100000 in
theorem impl_areSteps.calls (a0 : Int) (a1 : Int) (r : Bool) (w : World) (h : impl_areSteps.f a0 a1 = some r) :
    Calls Try.prog 52 #[.int .i64 a0, .int .i64 a1] w fun e w' => e = .returned (.bool r) ∧ Drawn0 w w' := by
  have H : ((impl_in.f a0 0 40).bind fun t129 => (if t129 = true then ((impl_in.f a1 0 40).bind fun t130 => (if t130 = true then (some (decide ((wrap64 (a0 + a1)) ≤ 40))) else (some false))) else (some false))) = some r := h
  clear h
  replace H := Option.bind_eq_some_iff.mp H
  obtain ⟨t129, A30, H⟩ := H
  replace H : (if t129 = true then ((impl_in.f a1 0 40).bind fun t130 => (if t130 = true then (some (decide ((wrap64 (a0 + a1)) ≤ 40))) else (some false))) else (some false)) = some r := H
  have A3 := Aside0.mk A30
  clear A30
  by_cases c4 : t129 = true
  · subst c4
    have H1 : ((impl_in.f a1 0 40).bind fun t130 => (if t130 = true then (some (decide ((wrap64 (a0 + a1)) ≤ 40))) else (some false))) = some r := by rw [if_pos rfl] at H; exact H
    clear H
    have H := H1
    clear H1
    replace H := Option.bind_eq_some_iff.mp H
    obtain ⟨t130, A50, H⟩ := H
    replace H : (if t130 = true then (some (decide ((wrap64 (a0 + a1)) ≤ 40))) else (some false)) = some r := H
    have A5 := Aside0.mk A50
    clear A50
    by_cases c6 : t130 = true
    · subst c6
      have H1 : (some (decide ((wrap64 (a0 + a1)) ≤ 40))) = some r := by rw [if_pos rfl] at H; exact H
      clear H
      have H := H1
      clear H1
      obtain rfl := Option.some.inj H
      go_enter Try.func52, Try.ntmps52
      go_wp2_with (first | ((with_reducible refine gate_callee (f := 60) rfl ?_); refine goesL_ (some 6) rfl rfl Try.func60 (by kernel_rfl) rfl #[.int .i64 a0, .int .i64 0, .int .i64 40] rfl (by (try simp only [List.map_toArray, List.map_cons, List.map_nil]); first | done | rfl | (simp only [List.length_drop, List.length_take]; rfl)) ?_; (with_reducible refine (impl_in.calls a0 0 40 true _ A3.out).mono ?_); rintro e w' ⟨rfl, ⟨nd, rfl⟩⟩; refine ⟨_, rfl, ?_⟩) | (go_at_call 60; (with_reducible refine (impl_in.calls a1 0 40 true _ A5.out).mono ?_); rintro e w' ⟨rfl, ⟨nd, rfl⟩⟩))
      go_ret
      exact ⟨by first | rfl | (simp; done) | (simp [*]; done), by repeat (first | exact Drawn0.refl _ | apply Drawn0.step)⟩
    · replace c6 := Bool.eq_false_iff.mpr c6
      subst c6
      have H1 : (some false) = some r := by rw [if_neg (show ¬ (false = true) by decide)] at H; exact H
      clear H
      have H := H1
      clear H1
      obtain rfl := Option.some.inj H
      go_enter Try.func52, Try.ntmps52
      go_wp2_with (first | ((with_reducible refine gate_callee (f := 60) rfl ?_); refine goesL_ (some 6) rfl rfl Try.func60 (by kernel_rfl) rfl #[.int .i64 a0, .int .i64 0, .int .i64 40] rfl (by (try simp only [List.map_toArray, List.map_cons, List.map_nil]); first | done | rfl | (simp only [List.length_drop, List.length_take]; rfl)) ?_; (with_reducible refine (impl_in.calls a0 0 40 true _ A3.out).mono ?_); rintro e w' ⟨rfl, ⟨nd, rfl⟩⟩; refine ⟨_, rfl, ?_⟩) | (go_at_call 60; (with_reducible refine (impl_in.calls a1 0 40 false _ A5.out).mono ?_); rintro e w' ⟨rfl, ⟨nd, rfl⟩⟩))
      go_ret
      exact ⟨by first | rfl | (simp; done) | (simp [*]; done), by repeat (first | exact Drawn0.refl _ | apply Drawn0.step)⟩
  · replace c4 := Bool.eq_false_iff.mpr c4
    subst c4
    have H1 : (some false) = some r := by rw [if_neg (show ¬ (false = true) by decide)] at H; exact H
    clear H
    have H := H1
    clear H1
    obtain rfl := Option.some.inj H
    go_enter Try.func52, Try.ntmps52
    go_wp2_with (first | ((with_reducible refine gate_callee (f := 60) rfl ?_); refine goesL_ (some 6) rfl rfl Try.func60 (by kernel_rfl) rfl #[.int .i64 a0, .int .i64 0, .int .i64 40] rfl (by (try simp only [List.map_toArray, List.map_cons, List.map_nil]); first | done | rfl | (simp only [List.length_drop, List.length_take]; rfl)) ?_; (with_reducible refine (impl_in.calls a0 0 40 false _ A3.out).mono ?_); rintro e w' ⟨rfl, ⟨nd, rfl⟩⟩; refine ⟨_, rfl, ?_⟩))
    go_ret
    exact ⟨by first | rfl | (simp; done) | (simp [*]; done), by repeat (first | exact Drawn0.refl _ | apply Drawn0.step)⟩

/-! ### impl_areWalls: function 57 -/
def impl_areWalls.f (a0 : Int) (a1 : Int) : Option (Bool) := (impl_in.f a0 (-40) 0).bind fun t131 => (if t131 = true then ((impl_in.f a1 0 40).bind fun t132 => (some t132)) else (some false))
set_option maxHeartbeats 8000000 in
set_option maxRecDepth 100000 in
theorem impl_areWalls.calls (a0 : Int) (a1 : Int) (r : Bool) (w : World) (h : impl_areWalls.f a0 a1 = some r) :
    Calls Try.prog 57 #[.int .i64 a0, .int .i64 a1] w fun e w' => e = .returned (.bool r) ∧ Drawn0 w w' := by
  have H : ((impl_in.f a0 (-40) 0).bind fun t131 => (if t131 = true then ((impl_in.f a1 0 40).bind fun t132 => (some t132)) else (some false))) = some r := h
  clear h
  replace H := Option.bind_eq_some_iff.mp H
  obtain ⟨t131, A30, H⟩ := H
  replace H : (if t131 = true then ((impl_in.f a1 0 40).bind fun t132 => (some t132)) else (some false)) = some r := H
  have A3 := Aside0.mk A30
  clear A30
  by_cases c4 : t131 = true
  · subst c4
    have H1 : ((impl_in.f a1 0 40).bind fun t132 => (some t132)) = some r := by rw [if_pos rfl] at H; exact H
    clear H
    have H := H1
    clear H1
    replace H := Option.bind_eq_some_iff.mp H
    obtain ⟨t132, A50, H⟩ := H
    replace H : (some t132) = some r := H
    have A5 := Aside0.mk A50
    clear A50
    obtain rfl := Option.some.inj H
    go_enter Try.func57, Try.ntmps57
    go_wp2_with (first | ((with_reducible refine gate_callee (f := 60) rfl ?_); refine goesL_ (some 6) rfl rfl Try.func60 (by kernel_rfl) rfl #[.int .i64 a0, .int .i64 (-40), .int .i64 0] rfl (by (try simp only [List.map_toArray, List.map_cons, List.map_nil]); first | done | rfl | (simp only [List.length_drop, List.length_take]; rfl)) ?_; (with_reducible refine (impl_in.calls a0 (-40) 0 true _ A3.out).mono ?_); rintro e w' ⟨rfl, ⟨nd, rfl⟩⟩; refine ⟨_, rfl, ?_⟩) | (go_at_call 60; (with_reducible refine (impl_in.calls a1 0 40 t132 _ A5.out).mono ?_); rintro e w' ⟨rfl, ⟨nd, rfl⟩⟩))
    go_ret
    exact ⟨by first | rfl | (simp; done) | (simp [*]; done), by repeat (first | exact Drawn0.refl _ | apply Drawn0.step)⟩
  · replace c4 := Bool.eq_false_iff.mpr c4
    subst c4
    have H1 : (some false) = some r := by rw [if_neg (show ¬ (false = true) by decide)] at H; exact H
    clear H
    have H := H1
    clear H1
    obtain rfl := Option.some.inj H
    go_enter Try.func57, Try.ntmps57
    go_wp2_with (first | ((with_reducible refine gate_callee (f := 60) rfl ?_); refine goesL_ (some 6) rfl rfl Try.func60 (by kernel_rfl) rfl #[.int .i64 a0, .int .i64 (-40), .int .i64 0] rfl (by (try simp only [List.map_toArray, List.map_cons, List.map_nil]); first | done | rfl | (simp only [List.length_drop, List.length_take]; rfl)) ?_; (with_reducible refine (impl_in.calls a0 (-40) 0 false _ A3.out).mono ?_); rintro e w' ⟨rfl, ⟨nd, rfl⟩⟩; refine ⟨_, rfl, ?_⟩))
    go_ret
    exact ⟨by first | rfl | (simp; done) | (simp [*]; done), by repeat (first | exact Drawn0.refl _ | apply Drawn0.step)⟩

end Go.Proofs.Ytblofikjcmjaeaa.PFnExactAllBetween
