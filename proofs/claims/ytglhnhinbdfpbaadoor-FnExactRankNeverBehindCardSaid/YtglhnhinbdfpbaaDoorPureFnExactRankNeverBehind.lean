/- The plain law of the statement FnExactRankNeverBehind: what the program's function computes is what the reference's computes, for all arguments; no condition. -/
import Derived.Test.YtglhnhinbdfpbaaDoorPFnExactRankNeverBehindx5
namespace Go.Proofs.YtglhnhinbdfpbaaDoor.Pure
open Go.RowKit Go.Proofs.YtglhnhinbdfpbaaDoor.PFnExactRankNeverBehind Go.Proofs.YtglhnhinbdfpbaaDoorW.PrintWords Go.Proofs.YtglhnhinbdfpbaaDoorW.PrintLast Go.Proofs.YtglhnhinbdfpbaaDoorW.PrintMore

theorem Ev.s {α : Type} {g : Nat → Option α} {r : α} (h : Ev (fun k => g (k + 1)) r) : Ev g r := by
  obtain ⟨K, hK⟩ := h
  refine ⟨K + 1, fun k hk => ?_⟩
  obtain ⟨m, rfl⟩ : ∃ m, k = m + 1 := ⟨k - 1, by omega⟩
  exact hK m (by omega)
theorem Ev.c {α : Type} {o : Option α} {r : α} (h : o = some r) : Ev (fun _ => o) r := ⟨0, fun _ _ => h⟩
theorem Ev.u {α : Type} {g : Nat → Option α} {r r' : α} (h : Ev g r) (h' : Ev g r') : r = r' := by
  obtain ⟨K, hK⟩ := h
  obtain ⟨K', hK'⟩ := h'
  have a := hK (max K K') (by omega)
  have b := hK' (max K K') (by omega)
  rw [a] at b
  exact Option.some.inj b
theorem Ev.e {α : Type} {g : Nat → Option α} {r r' : α} (h : Ev g r) (e : r = r') : Ev g r' := e ▸ h
theorem Ev.bs {α β : Type} {g : Nat → Option α} {f : Nat → α → Option β} {a : α} {r : β} (h : Ev g a) (k : Ev (fun n => f n a) r) : Ev (fun n => Option.bind (g n) (f n)) r := Ev.bind h k
theorem w64 {n : Int} (h : -9223372036854775808 ≤ n) (h' : n ≤ 9223372036854775807) : wrap64 n = n := by unfold wrap64; omega
theorem rd_set (l : List Int) (i j : Int) (v : Int) (hi : 0 ≤ i) (hj : 0 ≤ j) (hl : i < (l.length : Int)) : rd (l.set i.toNat v) j = if i = j then v else rd l j := by
  unfold rd
  rw [List.getD_eq_getElem?_getD, List.getD_eq_getElem?_getD, List.getElem?_set]
  by_cases e : i = j
  · subst e; rw [if_pos rfl, if_pos rfl, if_pos (by omega)]; rfl
  · rw [if_neg (by omega), if_neg e]

theorem in_eq (a b c : Int) : impl_in.f a b c = some (decide (b ≤ a ∧ a ≤ c)) := by
  unfold impl_in.f
  by_cases h : b ≤ a
  · rw [if_pos h]; simp [h]
  · rw [if_neg h]; simp [h]

theorem l1In_eq (a b c : Int) : spec_l1In.f a b c = some (decide (b ≤ a ∧ a ≤ c)) := by
  unfold spec_l1In.f
  by_cases h : a ≥ b
  · rw [if_pos h]; simp [h]
  · rw [if_neg h]; simp [h]

theorem drop_rd (l : List Int) (i : Nat) (h : i < l.length) : l.drop i = rd l (i : Int) :: l.drop (i + 1) := by
  rw [List.drop_eq_getElem_cons h]
  unfold rd
  rw [Int.toNat_natCast, List.getD_eq_getElem?_getD, List.getElem?_eq_getElem h]
  rfl
theorem rd_get (l : List Int) (i : Nat) (h : i < l.length) : rd l (i : Int) = l[i] := by
  unfold rd
  rw [Int.toNat_natCast, List.getD_eq_getElem?_getD, List.getElem?_eq_getElem h]
  rfl
theorem wsucc (i n : Nat) (h : i < n) (hn : n ≤ 9223372036854775807) : wrap64 ((i : Int) + 1) = ((i + 1 : Nat) : Int) := by
  rw [w64 (by omega) (by omega)]; omega
theorem rd_cons_succ (x : Int) (l : List Int) (i : Nat) : rd (x :: l) ((i + 1 : Nat) : Int) = rd l (i : Int) := by
  unfold rd
  simp only [Int.toNat_natCast, List.getD_cons_succ]
theorem rd_cons_zero (x : Int) (l : List Int) : rd (x :: l) 0 = x := rfl

/-- A loop over a list, with its places. -/
def foldI {α : Type} (step : α → Nat → Int → α) : α → Nat → List Int → α
  | a, _, [] => a
  | a, i, x :: r => foldI step (step a i x) (i + 1) r
theorem loopL {α β : Type} {g : Nat → α → Int → Option β} {xs : List Int} {step : α → Nat → Int → α} {fin : α → β} (Inv : α → Nat → Prop)
    (hs : ∀ (k : Nat) (a : α) (i : Nat), Inv a i → i < xs.length → g (k + 1) a (i : Int) = g k (step a i (rd xs (i : Int))) ((i + 1 : Nat) : Int))
    (hi : ∀ (a : α) (i : Nat), Inv a i → i < xs.length → Inv (step a i (rd xs (i : Int))) (i + 1))
    (hf : ∀ (k : Nat) (a : α), Inv a xs.length → g (k + 1) a (xs.length : Int) = some (fin a)) :
    ∀ (d : Nat) (a : α) (i : Nat), i + d = xs.length → Inv a i → Ev (fun k => g k a (i : Int)) (fin (foldI step a i (xs.drop i))) := by
  intro d
  induction d with
  | zero =>
    intro a i h h0
    obtain rfl : i = xs.length := by omega
    refine Ev.s ?_
    simp only [hf _ a h0]
    rw [List.drop_of_length_le (Nat.le_refl _)]
    exact Ev.now _
  | succ d ih =>
    intro a i h h0
    refine Ev.s ?_
    simp only [hs _ a i h0 (by omega)]
    rw [drop_rd xs i (by omega)]
    exact ih _ (i + 1) (by omega) (hi a i h0 (by omega))
theorem loop0 {α β : Type} {g : Nat → α → Int → Option β} {xs : List Int} {step : α → Nat → Int → α} {fin : α → β} (Inv : α → Nat → Prop)
    (hs : ∀ (k : Nat) (a : α) (i : Nat), Inv a i → i < xs.length → g (k + 1) a (i : Int) = g k (step a i (rd xs (i : Int))) ((i + 1 : Nat) : Int))
    (hi : ∀ (a : α) (i : Nat), Inv a i → i < xs.length → Inv (step a i (rd xs (i : Int))) (i + 1))
    (hf : ∀ (k : Nat) (a : α), Inv a xs.length → g (k + 1) a (xs.length : Int) = some (fin a)) (a : α) (h0 : Inv a 0) :
    Ev (fun k => g k a 0) (fin (foldI step a 0 xs)) := by
  have := loopL Inv hs hi hf xs.length a 0 (by omega) h0
  rwa [List.drop_zero] at this

theorem bl (s : ByteArray) : s.data.toList.length = s.size := by rw [Array.length_toList]; rfl
theorem btl (s : ByteArray) (i : Nat) (h : i < s.size) : ∃ hi : i < s.data.toList.length, bt s (i : Int) = ((s.data.toList[i]'hi).toNat : Int) := by
  refine ⟨by rw [bl]; exact h, ?_⟩
  unfold bt
  rw [dif_pos (by simpa using h)]
  rfl
theorem u8_eq (c : UInt8) (n : Nat) (hn : n < 256) : ((c.toNat : Int) = (n : Int)) ↔ c = UInt8.ofNat n := by
  have e : (UInt8.ofNat n).toNat = n := by rw [UInt8.toNat_ofNat', Nat.mod_eq_of_lt hn]
  constructor
  · intro h
    have : c.toNat = n := by omega
    exact UInt8.toNat_inj.1 (by rw [e]; exact this)
  · intro h
    subst h
    rw [e]
theorem bt_eq (s : ByteArray) (i : Nat) (h : i < s.size) (n : Nat) (hn : n < 256) : bt s (i : Int) = (n : Int) ↔ s.data.toList[i]? = some (UInt8.ofNat n) := by
  obtain ⟨h', e⟩ := btl s i h
  rw [e, u8_eq _ n hn, List.getElem?_eq_getElem h']
  simp
theorem toList_eq (s : ByteArray) : s.toList = s.data.toList := by
  exact ByteArray.toList_eq s

/-- Is this byte a step? -/
def stp (c : UInt8) : Bool := c == 85 || c == 68
/-- Is this text a path? -/
def GoodP (s : ByteArray) : Bool := decide (s.size ≤ 40) && s.data.toList.all stp
theorem GoodP_iff {s : ByteArray} (h : GoodP s = true) : s.size ≤ 40 ∧ s.data.toList.all stp = true := by
  unfold GoodP at h
  simpa using h
theorem paGood_l0 (s : ByteArray) (hn : s.size ≤ 1048576) (d : Nat) : ∀ (i : Nat), i + d = s.size → Ev (fun k => spec_paGood.l0 k s (i : Int)) ((s.data.toList.drop i).all stp) := by
  induction d with
  | zero =>
    intro i h
    refine Ev.s ?_
    have c : ¬ ((i : Int) < (s.size : Int)) := by omega
    simp only [spec_paGood.l0, if_neg c]
    rw [List.drop_of_length_le (by rw [bl]; omega)]
    exact Ev.now _
  | succ d ih =>
    intro i h
    refine Ev.s ?_
    have c1 : ((i : Int) < (s.size : Int)) := by omega
    have c2 : (0 : Int) ≤ (i : Int) := by omega
    have e := wsucc i s.size (by omega) (by omega)
    obtain ⟨h', hb⟩ := btl s i (by omega)
    rw [List.drop_eq_getElem_cons h', List.all_cons]
    have h85 : bt s (i : Int) = 85 ↔ s.data.toList[i] = 85 := by rw [hb]; exact u8_eq _ 85 (by omega)
    have h68 : bt s (i : Int) = 68 ↔ s.data.toList[i] = 68 := by rw [hb]; exact u8_eq _ 68 (by omega)
    simp only [spec_paGood.l0, if_pos c1, if_pos c2, e]
    by_cases a : bt s (i : Int) = 85
    · simp only [if_pos a]
      have : stp s.data.toList[i] = true := by rw [h85.1 a]; rfl
      rw [this, Bool.true_and]
      exact ih (i + 1) (by omega)
    · simp only [if_neg a]
      by_cases b : bt s (i : Int) = 68
      · simp only [if_pos b]
        have : stp s.data.toList[i] = true := by rw [h68.1 b]; rfl
        rw [this, Bool.true_and]
        exact ih (i + 1) (by omega)
      · simp only [if_neg b]
        have : stp s.data.toList[i] = false := by
          unfold stp
          rw [h85] at a
          rw [h68] at b
          rw [beq_eq_false_iff_ne.2 a, beq_eq_false_iff_ne.2 b]; rfl
        rw [this, Bool.false_and]
        exact Ev.now _
theorem paGood_ev (s : ByteArray) (hn : s.size ≤ 1048576) : Ev (fun k => spec_paGood.f k s) (GoodP s) := by
  unfold spec_paGood.f GoodP
  by_cases h : (s.size : Int) > 40
  · simp only [if_pos h]
    rw [decide_eq_false (by omega), Bool.false_and]
    exact Ev.now _
  · simp only [if_neg h]
    rw [decide_eq_true (by omega), Bool.true_and]
    exact paGood_l0 s hn s.size 0 (by omega)
theorem dropW_nil (p : UInt8 → Bool) : ∀ l : List UInt8, l.dropWhile p = [] ↔ l.all p = true
  | [] => by simp
  | c :: r => by
    by_cases h : p c = true
    · simp [h, dropW_nil p r]
    · simp [h]
theorem all_dropW (p : UInt8 → Bool) : ∀ l : List UInt8, (l.dropWhile p).all p = l.all p
  | [] => rfl
  | c :: r => by
    by_cases h : p c = true
    · simp only [List.dropWhile_cons, h, if_true, List.all_cons, Bool.true_and]; exact all_dropW p r
    · simp only [List.dropWhile_cons, h, Bool.false_eq_true, if_false]
theorem trim_nil (l : List UInt8) : Lib.trimS l [85, 68] = [] ↔ l.all stp = true := by
  have e : (fun c : UInt8 => [85, 68].contains c) = stp := by
    funext c
    unfold stp
    simp only [List.contains_cons, List.contains_nil, Bool.or_false]
  unfold Lib.trimS Lib.trimLeftS Lib.trimRightS
  rw [e, dropW_nil, List.all_reverse, all_dropW, List.all_reverse]
theorem isPath_eq (s : ByteArray) (hn : s.size ≤ 1048576000) : impl_IsPath.f s = some (GoodP s) := by
  unfold impl_IsPath.f GoodP
  by_cases h : (s.size : Int) ≤ 40
  · rw [if_pos h, decide_eq_true (by omega), Bool.true_and]
    unfold strings_Trim.f
    rw [if_pos ⟨by omega, by decide, by decide⟩]
    simp only [Option.bind_some, toList_eq]
    congr 1
    rw [Bool.eq_iff_iff, beq_iff_eq]
    exact trim_nil _
  · rw [if_neg h, decide_eq_false (by omega), Bool.false_and]

/-- The heights of a text from a height on. -/
def hs (st : UInt8 → Int) : Int → List UInt8 → List Int
  | h, [] => [h]
  | h, c :: r => h :: hs st (h + st c) r
theorem hs_len (st : UInt8 → Int) : ∀ (l : List UInt8) (h : Int), (hs st h l).length = l.length + 1
  | [], h => rfl
  | c :: r, h => by simp only [hs, List.length_cons, hs_len st r]
theorem hs_zero (st : UInt8 → Int) (l : List UInt8) (h : Int) : rd (hs st h l) 0 = h := by cases l <;> rfl
theorem hs_succ (st : UInt8 → Int) : ∀ (l : List UInt8) (h : Int) (i : Nat) (hi : i < l.length), rd (hs st h l) ((i + 1 : Nat) : Int) = rd (hs st h l) (i : Int) + st l[i]
  | c :: r, h, 0, hi => by
    simp only [hs]
    rw [rd_cons_succ]
    exact hs_zero st r _
  | c :: r, h, i + 1, hi => by
    simp only [hs, List.getElem_cons_succ]
    rw [rd_cons_succ, rd_cons_succ]
    exact hs_succ st r _ i (by simpa using hi)
theorem hs_bd (st : UInt8 → Int) (B : Int) (hB : ∀ c, -B ≤ st c ∧ st c ≤ B) (l : List UInt8) (h : Int) : ∀ (i : Nat), i ≤ l.length → h - B * i ≤ rd (hs st h l) (i : Int) ∧ rd (hs st h l) (i : Int) ≤ h + B * i
  | 0, _ => by
    have := hs_zero st l h
    simp only [Int.natCast_zero, this]; simp
  | i + 1, hi => by
    have ih := hs_bd st B hB l h i (by omega)
    rw [hs_succ st l h i (by omega)]
    have := hB l[i]
    have e : B * ((i + 1 : Nat) : Int) = B * (i : Int) + B := by rw [Int.natCast_add, Int.mul_add]; simp
    rw [e]
    omega
theorem rd_take (l : List Int) (n i : Nat) (h : i < n) : rd (l.take n) (i : Int) = rd l (i : Int) := by
  unfold rd
  rw [Int.toNat_natCast, List.getD_eq_getElem?_getD, List.getD_eq_getElem?_getD, List.getElem?_take_of_lt h]
theorem take_rd (l : List Int) (n : Nat) (h : n < l.length) : l.take (n + 1) = l.take n ++ [rd l (n : Int)] := by
  rw [List.take_succ_eq_append_getElem h, rd_get l n h]
/-- A step of a path. -/
def st1 (c : UInt8) : Int := if c = 68 then -1 else 1
theorem st1_bd (c : UInt8) : -1 ≤ st1 c ∧ st1 c ≤ 1 := by unfold st1; split <;> omega
/-- The heights of a path. -/
def HL (s : ByteArray) : List Int := hs st1 0 s.data.toList
theorem HL_len (s : ByteArray) : (HL s).length = s.size + 1 := by unfold HL; rw [hs_len, bl]
theorem HL_bd (s : ByteArray) (h : s.size ≤ 40) (i : Nat) (hi : i ≤ s.size) : -40 ≤ rd (HL s) (i : Int) ∧ rd (HL s) (i : Int) ≤ 40 := by
  have := hs_bd st1 1 st1_bd s.data.toList 0 i (by rw [bl]; exact hi)
  unfold HL
  omega
theorem HL_succ (s : ByteArray) (i : Nat) (hi : i < s.size) : rd (HL s) ((i + 1 : Nat) : Int) = rd (HL s) (i : Int) + (if bt s (i : Int) = 68 then -1 else 1) := by
  obtain ⟨h', hb⟩ := btl s i hi
  unfold HL
  rw [hs_succ st1 _ 0 i h']
  unfold st1
  have e : (bt s (i : Int) = 68) ↔ s.data.toList[i] = 68 := by rw [hb]; exact u8_eq _ 68 (by omega)
  simp only [e]

/-- A step of a lead. -/
def stk (k : Int) (c : UInt8) : Int := if c = 68 then -k else 1
theorem stk_one : stk 1 = st1 := by funext c; rfl
theorem stk_bd (k : Int) (hk : 0 ≤ k ∧ k ≤ 40) (c : UInt8) : -40 ≤ stk k c ∧ stk k c ≤ 40 := by unfold stk; split <;> omega
/-- The leads. -/
def ML (k : Int) (s : ByteArray) : List Int := hs (stk k) 0 s.data.toList
theorem ML_one (s : ByteArray) : ML 1 s = HL s := by unfold ML HL; rw [stk_one]
theorem ML_len (k : Int) (s : ByteArray) : (ML k s).length = s.size + 1 := by unfold ML; rw [hs_len, bl]
theorem ML_zero (k : Int) (s : ByteArray) : rd (ML k s) 0 = 0 := hs_zero _ _ _
theorem ML_bd (k : Int) (hk : 0 ≤ k ∧ k ≤ 40) (s : ByteArray) (h : s.size ≤ 40) (i : Nat) (hi : i ≤ s.size) : -1600 ≤ rd (ML k s) (i : Int) ∧ rd (ML k s) (i : Int) ≤ 1600 := by
  have := hs_bd (stk k) 40 (stk_bd k hk) s.data.toList 0 i (by rw [bl]; exact hi)
  unfold ML
  omega
theorem ML_succ (k : Int) (s : ByteArray) (i : Nat) (hi : i < s.size) : rd (ML k s) ((i + 1 : Nat) : Int) = rd (ML k s) (i : Int) + (if bt s (i : Int) = 68 then -k else 1) := by
  obtain ⟨h', hb⟩ := btl s i hi
  unfold ML
  rw [hs_succ (stk k) _ 0 i h']
  unfold stk
  have e : (bt s (i : Int) = 68) ↔ s.data.toList[i] = 68 := by rw [hb]; exact u8_eq _ 68 (by omega)
  simp only [e]
theorem good_step (s : ByteArray) (g : GoodP s = true) (i : Nat) (hi : i < s.size) : bt s (i : Int) = 85 ↔ ¬ bt s (i : Int) = 68 := by
  obtain ⟨h', hb⟩ := btl s i hi
  have h := List.all_eq_true.1 (GoodP_iff g).2 _ (List.getElem_mem h')
  have e68 : (bt s (i : Int) = 68) ↔ s.data.toList[i] = 68 := by rw [hb]; exact u8_eq _ 68 (by omega)
  have e85 : (bt s (i : Int) = 85) ↔ s.data.toList[i] = 85 := by rw [hb]; exact u8_eq _ 85 (by omega)
  unfold stp at h
  simp only [Bool.or_eq_true, beq_iff_eq] at h
  rcases h with h | h
  · exact ⟨fun _ z => by have := e68.1 z; rw [h] at this; exact absurd this (by decide), fun _ => e85.2 h⟩
  · exact ⟨fun z => by have := e85.1 z; rw [h] at this; exact absurd this (by decide), fun z => absurd (e68.2 h) z⟩

theorem baMargin_ev (s : ByteArray) (g : GoodP s = true) (q : Int) (hq : 0 ≤ q ∧ q ≤ 40) : Ev (fun k => spec_baMargin.f k s q) (ML q s) := by
  have hn := (GoodP_iff g).1
  have key : ∀ (d i : Nat), i + d = s.size → Ev (fun k => spec_baMargin.l0 k s q ((ML q s).take (i + 1)) (rd (ML q s) (i : Int)) (i : Int)) (ML q s) := by
    intro d
    induction d with
    | zero =>
      intro i h
      refine Ev.s ?_
      have c : ¬ ((i : Int) < (s.size : Int)) := by omega
      simp only [spec_baMargin.l0, if_neg c]
      rw [List.take_of_length_le (by rw [ML_len]; omega)]
      exact Ev.now _
    | succ d ih =>
      intro i h
      refine Ev.s ?_
      have c1 : ((i : Int) < (s.size : Int)) := by omega
      have c2 : (0 : Int) ≤ (i : Int) := by omega
      have c4 : ((ML q s).take (i + 1)).length < 17592186044416 := by rw [List.length_take, ML_len]; omega
      have e := wsucc i s.size (by omega) (by omega)
      have hb := ML_bd q hq s hn i (by omega)
      have hs := ML_succ q s i (by omega)
      have ht := take_rd (ML q s) (i + 1) (by rw [ML_len]; omega)
      have hi := ih (i + 1) (by omega)
      have hg := good_step s g i (by omega)
      rw [ht] at hi
      by_cases b : bt s (i : Int) = 85
      · rw [if_neg (hg.1 b)] at hs
        have w : wrap64 (rd (ML q s) (i : Int) + 1) = rd (ML q s) ((i + 1 : Nat) : Int) := by rw [hs, w64 (by omega) (by omega)]
        simp only [spec_baMargin.l0, if_pos c1, if_pos c2, if_pos b, if_pos c4, e, w]
        exact hi
      · have b' : bt s (i : Int) = 68 := by
          by_cases z : bt s (i : Int) = 68
          · exact z
          · exact absurd (hg.2 z) b
        rw [if_pos b'] at hs
        have w : wrap64 (rd (ML q s) (i : Int) - q) = rd (ML q s) ((i + 1 : Nat) : Int) := by rw [hs, w64 (by omega) (by omega)]; omega
        simp only [spec_baMargin.l0, if_pos c1, if_pos c2, if_neg b, if_pos c4, e, w]
        exact hi
  have := key s.size 0 (by omega)
  rw [take_rd (ML q s) 0 (by rw [ML_len]; omega)] at this
  have h0 : rd (ML q s) ((0 : Nat) : Int) = 0 := ML_zero q s
  rw [h0] at this
  exact this

theorem leads_ev (s : ByteArray) (hn : s.size ≤ 40) (q : Int) (hq : 0 ≤ q ∧ q ≤ 40) : Ev (fun k => impl_leads.f k s q) (ML q s) := by
  have key : ∀ (d i : Nat), i + d = s.size → Ev (fun k => impl_leads.l0 k s q ((ML q s).take (i + 1)) (s.size : Int) (i : Int)) (ML q s) := by
    intro d
    induction d with
    | zero =>
      intro i h
      refine Ev.s ?_
      have c : ¬ ((i : Int) < (s.size : Int)) := by omega
      simp only [impl_leads.l0, if_neg c]
      rw [List.take_of_length_le (by rw [ML_len]; omega)]
      exact Ev.now _
    | succ d ih =>
      intro i h
      refine Ev.s ?_
      have c1 : ((i : Int) < (s.size : Int)) := by omega
      have c2 : (0 : Int) ≤ (i : Int) := by omega
      have hl : ((ML q s).take (i + 1)).length = i + 1 := by rw [List.length_take, ML_len]; omega
      have c3 : (i : Int) < (((ML q s).take (i + 1)).length : Int) := by omega
      have c4 : ((ML q s).take (i + 1)).length < 17592186044416 := by omega
      have e := wsucc i s.size (by omega) (by omega)
      have hb := ML_bd q hq s hn i (by omega)
      have hs := ML_succ q s i (by omega)
      have ht := take_rd (ML q s) (i + 1) (by rw [ML_len]; omega)
      have hr := rd_take (ML q s) (i + 1) i (by omega)
      have hi := ih (i + 1) (by omega)
      rw [ht] at hi
      by_cases b : bt s (i : Int) = 68
      · rw [if_pos b] at hs
        have w0 : wrap64 (-q) = -q := w64 (by omega) (by omega)
        have w : wrap64 (rd (ML q s) (i : Int) + -q) = rd (ML q s) ((i + 1 : Nat) : Int) := by rw [hs, w64 (by omega) (by omega)]
        simp only [impl_leads.l0, if_pos c1, if_pos c2, if_pos b, if_pos c3, if_pos c4, e, hr, w0, w]
        exact hi
      · rw [if_neg b] at hs
        have w : wrap64 (rd (ML q s) (i : Int) + 1) = rd (ML q s) ((i + 1 : Nat) : Int) := by rw [hs, w64 (by omega) (by omega)]
        simp only [impl_leads.l0, if_pos c1, if_pos c2, if_neg b, if_pos c3, if_pos c4, e, hr, w]
        exact hi
  have := key s.size 0 (by omega)
  rw [take_rd (ML q s) 0 (by rw [ML_len]; omega)] at this
  have h0 : rd (ML q s) ((0 : Nat) : Int) = 0 := ML_zero q s
  rw [h0] at this
  exact this
theorem ML_cons (q : Int) (s : ByteArray) : ML q s = 0 :: (ML q s).drop 1 := by
  have := drop_rd (ML q s) 0 (by rw [ML_len]; omega)
  rw [List.drop_zero] at this
  have h0 : rd (ML q s) ((0 : Nat) : Int) = 0 := ML_zero q s
  rw [h0] at this
  exact this

/-- A path, and a right k. -/
def AskB (s : ByteArray) (q : Int) : Bool := GoodP s && decide (1 ≤ q ∧ q ≤ 5)
theorem AskB_iff {s : ByteArray} {q : Int} (h : AskB s q = true) : GoodP s = true ∧ 1 ≤ q ∧ q ≤ 5 := by
  unfold AskB at h
  simpa using h
theorem baAsked_ev (s : ByteArray) (hn : s.size ≤ 1048576) (q : Int) : Ev (fun k => spec_baAsked.f k s q) (AskB s q) := by
  unfold spec_baAsked.f AskB
  refine Ev.bs (paGood_ev s hn) ?_
  by_cases g : GoodP s = true
  · simp only [g, if_true, l1In_eq, Option.bind_some, Bool.true_and]; exact Ev.now _
  · simp only [Bool.eq_false_iff.mpr g, Bool.false_and, Bool.false_eq_true, if_false]; exact Ev.now _
theorem isVote_eq (s : ByteArray) (hn : s.size ≤ 1048576) (q : Int) : impl_isVote.f s q = some (AskB s q) := by
  unfold impl_isVote.f AskB
  rw [isPath_eq s (by omega)]
  by_cases g : GoodP s = true
  · simp only [Option.bind_some, g, if_true, in_eq, Bool.true_and]
  · simp only [Option.bind_some, Bool.eq_false_iff.mpr g, Bool.false_and, Bool.false_eq_true, if_false]

/-- The first place that meets a test. -/
def fnd (p : Nat → Int → Bool) : Nat → List Int → Option Nat
  | _, [] => none
  | i, x :: r => if p i x then some i else fnd p (i + 1) r
theorem loopE {β : Type} {g : Nat → Int → Option β} {xs : List Int} {p : Nat → Int → Bool} {hit : Nat → β} {miss : β}
    (h1 : ∀ (k i : Nat), i < xs.length → p i (rd xs (i : Int)) = true → g (k + 1) (i : Int) = some (hit i))
    (h2 : ∀ (k i : Nat), i < xs.length → p i (rd xs (i : Int)) = false → g (k + 1) (i : Int) = g k ((i + 1 : Nat) : Int))
    (h3 : ∀ (k : Nat), g (k + 1) (xs.length : Int) = some miss) : Ev (fun k => g k 0) (((fnd p 0 xs).map hit).getD miss) := by
  have key : ∀ (d i : Nat), i + d = xs.length → Ev (fun k => g k (i : Int)) (((fnd p i (xs.drop i)).map hit).getD miss) := by
    intro d
    induction d with
    | zero =>
      intro i h
      obtain rfl : i = xs.length := by omega
      refine Ev.s ?_
      simp only [h3]
      rw [List.drop_of_length_le (Nat.le_refl _)]
      exact Ev.now _
    | succ d ih =>
      intro i h
      refine Ev.s ?_
      rw [drop_rd xs i (by omega)]
      cases c : p i (rd xs (i : Int)) with
      | true =>
        simp only [h1 _ i (by omega) c, fnd, c, if_true]
        exact Ev.now _
      | false =>
        simp only [h2 _ i (by omega) c, fnd, c, Bool.false_eq_true, if_false]
        exact ih (i + 1) (by omega)
  have := key xs.length 0 (by omega)
  rwa [List.drop_zero] at this
theorem fnd_congr (p q : Nat → Int → Bool) : ∀ (xs : List Int) (i : Nat), (∀ j x, i ≤ j → p j x = q j x) → fnd p i xs = fnd q i xs
  | [], _, _ => rfl
  | x :: r, i, h => by
    simp only [fnd, h i x (Nat.le_refl _)]
    rw [fnd_congr p q r (i + 1) (fun j x hj => h j x (by omega))]

/-- The test of the reference. -/
def tst (most : Int) (i : Nat) (x : Int) : Bool := decide (0 < i ∧ x ≤ most)
theorem baFirst_ev (s : ByteArray) (g : GoodP s = true) (q : Int) (hq : 0 ≤ q ∧ q ≤ 40) (m : Int) : Ev (fun k => spec_baFirst.f k s q m) (((fnd (tst m) 0 (ML q s)).map (fun i : Nat => (i : Int))).getD (-1)) := by
  unfold spec_baFirst.f
  refine Ev.bs (baMargin_ev s g q hq) ?_
  have hl := ML_len q s
  have hn := (GoodP_iff g).1
  generalize ML q s = xs at hl
  refine loopE (g := fun k i => spec_baFirst.l0 k m xs (xs.length : Int) i) ?_ ?_ ?_
  · intro k i hi hp
    unfold tst at hp
    have hp := of_decide_eq_true hp
    have c1 : ((i : Int) < (xs.length : Int)) := by omega
    have c2 : (0 : Int) ≤ (i : Int) := by omega
    have c3 : (i : Int) > 0 := by omega
    simp only [spec_baFirst.l0, if_pos c1, if_pos c2, if_pos c3, if_pos hp.2]
  · intro k i hi hp
    unfold tst at hp
    have hp := of_decide_eq_false hp
    have c1 : ((i : Int) < (xs.length : Int)) := by omega
    have c2 : (0 : Int) ≤ (i : Int) := by omega
    have e := wsucc i xs.length hi (by omega)
    by_cases c3 : (i : Int) > 0
    · have c4 : ¬ rd xs (i : Int) ≤ m := fun h => hp ⟨by omega, h⟩
      simp only [spec_baFirst.l0, if_pos c1, if_pos c2, if_pos c3, if_neg c4, e]
    · simp only [spec_baFirst.l0, if_pos c1, if_pos c2, if_neg c3, e]
  · intro k
    have c : ¬ ((xs.length : Int) < (xs.length : Int)) := by omega
    simp only [spec_baFirst.l0, if_neg c]
theorem fnd_neg (p : Nat → Int → Bool) (xs : List Int) : decide (((fnd p 0 xs).map (fun i : Nat => (i : Int))).getD (-1) < 0) = (fnd p 0 xs).isNone := by
  cases h : fnd p 0 xs with
  | none => rfl
  | some i => simp

theorem mx_eq (a b : Int) : mx a b = max a b := by unfold mx; split <;> omega
theorem mn_eq (a b : Int) : mn a b = min a b := by unfold mn; split <;> omega

theorem slicesMin_ev (xs : List Int) (hl : 1 ≤ xs.length ∧ xs.length ≤ 1000000) : Ev (fun k => slices_Min_int_int.f k xs) (foldI (fun a _ x => min a x) (rd xs 0) 1 (xs.drop 1)) := by
  unfold slices_Min_int_int.f
  have c1 : ¬ ((xs.length : Int) < 1) := by omega
  have c2 : (0 : Int) < (xs.length : Int) := by omega
  simp only [if_neg c1, if_pos c2]
  refine loopL (g := fun k a i => slices_Min_int_int.l0 k xs a i) (fin := fun a => a) (step := fun a _ x => min a x) (fun _ _ => True) ?_ ?_ ?_ (xs.length - 1) (rd xs 0) 1 (by omega) trivial
  · intro k a i _ hi
    have c1 : ((i : Int) < (xs.length : Int)) := by omega
    have c2 : (0 : Int) ≤ (i : Int) := by omega
    have e := wsucc i xs.length hi (by omega)
    simp only [slices_Min_int_int.l0, if_pos c1, if_pos c2, e, mn_eq]
  · intro a i _ hi; trivial
  · intro k a _
    have c : ¬ ((xs.length : Int) < (xs.length : Int)) := by omega
    simp only [slices_Min_int_int.l0, if_neg c]

theorem foldI_min_le : ∀ (xs : List Int) (a : Int) (i : Nat), foldI (fun a _ x => min a x) a i xs ≤ a
  | [], a, _ => by simp [foldI]
  | x :: r, a, i => by
    simp only [foldI]
    have := foldI_min_le r (min a x) (i + 1)
    omega

theorem fnd_min (p : Nat → Int → Bool) (hp : ∀ i x, 1 ≤ i → p i x = decide (x < 0)) : ∀ (xs : List Int) (a : Int) (i : Nat), 0 ≤ a → 1 ≤ i → (foldI (fun a _ x => min a x) a i xs ≥ 0 ↔ (fnd p i xs).isNone = true)
  | [], a, i, ha, hi => by simp [foldI, fnd, ha]
  | x :: r, a, i, ha, hi => by
    have e : foldI (fun a _ x => min a x) a i (x :: r) = foldI (fun a _ x => min a x) (min a x) (i + 1) r := rfl
    have e2 : fnd p i (x :: r) = if p i x then some i else fnd p (i + 1) r := rfl
    rw [e, e2, hp i x hi]
    by_cases h : x < 0
    · rw [decide_eq_true h, if_pos rfl]
      have := foldI_min_le r (min a x) (i + 1)
      constructor
      · intro z; omega
      · intro z; simp at z
    · rw [decide_eq_false h, if_neg (by simp)]
      exact fnd_min p hp r (min a x) (i + 1) (by omega) (by omega)

theorem neverB_ev (s : ByteArray) (hn : s.size ≤ 40) (q : Int) (hq : 0 ≤ q ∧ q ≤ 40) : Ev (fun k => impl_neverBehind.f k s q) ((fnd (tst (-1)) 0 (ML q s)).isNone) := by
  unfold impl_neverBehind.f
  refine Ev.bs (leads_ev s hn q hq) ?_
  refine Ev.bs (slicesMin_ev (ML q s) (by rw [ML_len]; omega)) (Ev.c ?_)
  have h0 : rd (ML q s) 0 = 0 := ML_zero q s
  have key := fnd_min (tst (-1)) (fun i x hi => by
    unfold tst
    rw [decide_eq_decide]
    omega) ((ML q s).drop 1) 0 1 (by omega) (by omega)
  have e : fnd (tst (-1)) 0 (ML q s) = fnd (tst (-1)) 1 ((ML q s).drop 1) := by
    conv => lhs; rw [ML_cons q s]
    rfl
  rw [h0, e]
  congr 1
  rw [Bool.eq_iff_iff, decide_eq_true_eq]
  exact key

def Steps (a b : Int) : Prop := (0 ≤ a ∧ a ≤ 40) ∧ (0 ≤ b ∧ b ≤ 40) ∧ a + b ≤ 40
instance (a b : Int) : Decidable (Steps a b) := by unfold Steps; infer_instance

theorem wF_out {out : Int → Int → Prop} [∀ u d, Decidable (out u d)] {a b : Int} {F : Int → Int → Int} (H : OnF out a b F) {u d : Int} (h1 : 0 ≤ u) (h2 : u ≤ 41) (h3 : 0 ≤ d) (h4 : d ≤ 41) (h : u > a ∨ d > b ∨ out u d) : F u d = 0 := by
  rw [H.eq u d h1 h2 h3 h4, if_pos h]
theorem wF_end {out : Int → Int → Prop} [∀ u d, Decidable (out u d)] {a b : Int} {F : Int → Int → Int} (H : OnF out a b F) (h1 : 0 ≤ a) (h2 : a ≤ 41) (h3 : 0 ≤ b) (h4 : b ≤ 41) (h : ¬ out a b) : F a b = 1 := by
  rw [H.eq a b h1 h2 h3 h4, if_neg (by rintro (g | g | g) <;> first | omega | exact h g), if_pos ⟨rfl, rfl⟩]
theorem wF_step {out : Int → Int → Prop} [∀ u d, Decidable (out u d)] {a b : Int} {F : Int → Int → Int} (H : OnF out a b F) {u d : Int} (h1 : 0 ≤ u) (h2 : u ≤ a) (ha : a ≤ 40) (h3 : 0 ≤ d) (h4 : d ≤ b) (hb : b ≤ 40) (h : ¬ out u d) (hne : ¬ (u = a ∧ d = b)) : F u d = F (u + 1) d + F u (d + 1) := by
  rw [H.eq u d h1 (by omega) h3 (by omega), if_neg (by rintro (g | g | g) <;> first | omega | exact h g), if_neg hne]
abbrev OutN (k l u d : Int) : Prop := u + d > 0 ∧ u - k * d < l
theorem alive {out : Int → Int → Prop} [∀ u d, Decidable (out u d)] {A B : Int} {F : Int → Int → Int} (H : OnF out A B F) {u d : Int} (h1 : 0 ≤ u) (h2 : u ≤ 41) (h3 : 0 ≤ d) (h4 : d ≤ 41) (hp : 0 < F u d) : u ≤ A ∧ d ≤ B ∧ ¬ out u d := by
  have := H.eq u d h1 h2 h3 h4
  by_cases c : u > A ∨ d > B ∨ out u d
  · rw [if_pos c] at this; omega
  · exact ⟨by by_cases z : u > A; exact absurd (.inl z) c; omega, by by_cases z : d > B; exact absurd (.inr (.inl z)) c; omega, fun z => c (.inr (.inr z))⟩

theorem L1_set (x : List (List Int)) (n : Int) (v : List Int) (j : Int) (hn : 0 ≤ n) (hl : n < (x.length : Int)) (hj : 0 ≤ j) : rd_L1 (x.set n.toNat v) j = if n = j then v else rd_L1 x j := by
  unfold rd_L1
  rw [List.getD_eq_getElem?_getD, List.getD_eq_getElem?_getD, List.getElem?_set]
  by_cases h : n = j
  · subst h
    rw [if_pos rfl, if_pos rfl, if_pos (by omega)]; rfl
  · rw [if_neg (by omega), if_neg h]
/-- The table, rows below j being done, and row j as far as i. -/
structure Tab (F : Int → Int → Int) (A B : Int) (a b : Nat) (x : List (List Int)) (j i : Nat) : Prop where
  len : x.length = b + 1
  done : ∀ j' : Nat, j' < j → (rd_L1 x (j' : Int)).length = a + 1 ∧ ∀ i' : Nat, i' ≤ a → rd (rd_L1 x (j' : Int)) (i' : Int) = F (A - i') (B - j')
  row : (rd_L1 x (j : Int)).length = a + 1
  got : ∀ i' : Nat, i' ≤ a → rd (rd_L1 x (j : Int)) (i' : Int) = if i' < i then F (A - i') (B - j) else 0
theorem Tab.put {F : Int → Int → Int} {A B : Int} {a b : Nat} {x : List (List Int)} {j i : Nat} (h : Tab F A B a b x j i) (hj : j ≤ b) (hi : i ≤ a) (v : Int) (hv : v = F (A - i) (B - j)) : Tab F A B a b (x.set (j : Int).toNat ((rd_L1 x (j : Int)).set (i : Int).toNat v)) j (i + 1) := by
  have hl := h.len
  refine ⟨by rw [List.length_set]; exact h.len, fun j' hj' => ?_, ?_, fun i' hi' => ?_⟩
  · rw [L1_set _ _ _ _ (by omega) (by omega) (by omega), if_neg (by omega)]
    exact h.done j' hj'
  · rw [L1_set _ _ _ _ (by omega) (by omega) (by omega), if_pos rfl, List.length_set]; exact h.row
  · have hr := h.row
    rw [L1_set _ _ _ _ (by omega) (by omega) (by omega), if_pos rfl, rd_set _ _ _ _ (by omega) (by omega) (by omega)]
    by_cases e : (i : Int) = (i' : Int)
    · rw [if_pos e, if_pos (by omega), hv]
      have : i' = i := by omega
      rw [this]
    · rw [if_neg e, h.got i' hi']
      by_cases c : i' < i
      · rw [if_pos c, if_pos (by omega)]
      · rw [if_neg c, if_neg (by omega)]
theorem Tab.skip {F : Int → Int → Int} {A B : Int} {a b : Nat} {x : List (List Int)} {j i : Nat} (h : Tab F A B a b x j i) (hv : F (A - i) (B - j) = 0) : Tab F A B a b x j (i + 1) := by
  refine ⟨h.len, h.done, h.row, fun i' hi' => ?_⟩
  rw [h.got i' hi']
  by_cases c : i' < i
  · rw [if_pos c, if_pos (by omega)]
  · rw [if_neg c]
    by_cases e : i' < i + 1
    · rw [if_pos e, show i' = i from by omega, hv]
    · rw [if_neg e]
theorem set_two (x : List (List Int)) (j : Int) (i : Int) (v1 v2 : Int) (hj : 0 ≤ j) (hl : j < (x.length : Int)) : (x.set j.toNat ((rd_L1 x j).set i.toNat v1)).set j.toNat ((rd_L1 (x.set j.toNat ((rd_L1 x j).set i.toNat v1)) j).set i.toNat v2) = x.set j.toNat ((rd_L1 x j).set i.toNat v2) := by
  rw [L1_set _ _ _ _ hj hl hj, if_pos rfl, List.set_set, List.set_set]

theorem mulk (k x : Int) (hk : 1 ≤ k ∧ k ≤ 5) (h0 : -100 ≤ x) (h1 : x ≤ 100) : -500 ≤ k * x ∧ k * x ≤ 500 := by
  have : k = 1 ∨ k = 2 ∨ k = 3 ∨ k = 4 ∨ k = 5 := by omega
  rcases this with rfl | rfl | rfl | rfl | rfl <;> omega
section
variable {A B k : Int} {F : Int → Int → Int}
/-- What a point of the table is, by its neighbours. -/
theorem pt {a b : Nat} (H : OnF (OutN k 0) A B F) (hA : 0 ≤ A ∧ A ≤ 40) (hB : 0 ≤ B ∧ B ≤ 40) (ha : (a : Int) ≤ A) (hb : (b : Int) ≤ B) (i j : Nat) (hi : i ≤ a) (hj : j ≤ b) (hat : 0 ≤ A - i - k * (B - j)) (hij : ¬ (i + j = 0)) :
    F (A - i) (B - j) = (if 0 < i then F (A - ((i : Int) - 1)) (B - j) else 0) + (if 0 < j ∧ 0 ≤ A - i - k * (B - j) - k then F (A - i) (B - ((j : Int) - 1)) else 0) := by
  rw [wF_step H (by omega) (by omega) hA.2 (by omega) (by omega) hB.2 (by rintro ⟨_, h⟩; omega) (by omega)]
  congr 1
  · by_cases h : 0 < i
    · rw [if_pos h, show A - (i : Int) + 1 = A - ((i : Int) - 1) from by omega]
    · rw [if_neg h]; exact wF_out H (by omega) (by omega) (by omega) (by omega) (.inl (by omega))
  · by_cases h : 0 < j
    · rw [show B - (j : Int) + 1 = B - ((j : Int) - 1) from by omega]
      by_cases g : 0 ≤ A - i - k * (B - j) - k
      · rw [if_pos ⟨h, g⟩]
      · rw [if_neg (fun x => g x.2)]
        refine wF_out H (by omega) (by omega) (by omega) (by omega) (.inr (.inr ⟨by omega, ?_⟩))
        rw [show B - ((j : Int) - 1) = (B - j) + 1 from by omega, Int.mul_add, Int.mul_one]; omega
    · rw [if_neg (fun x => h x.1)]; exact wF_out H (by omega) (by omega) (by omega) (by omega) (.inr (.inl (by omega)))
theorem baRest_l1 {a b : Nat} (H : OnF (OutN k 0) A B F) (hk : 1 ≤ k ∧ k ≤ 5) (hA : 0 ≤ A ∧ A ≤ 40) (hB : 0 ≤ B ∧ B ≤ 40) (ha : (a : Int) ≤ A) (hb : (b : Int) ≤ B) (m : Int) (hm : m = A - a - k * (B - b)) (j : Nat) (hj : j ≤ b) (r : Int)
    (hnext : ∀ x, Tab F A B a b x j (a + 1) → Ev (fun n => spec_baRest.l0 n (a : Int) (b : Int) k m x ((j : Int) + 1)) r) : ∀ (e i : Nat) (x : List (List Int)), i + e = a + 1 → Tab F A B a b x j i → Ev (fun n => spec_baRest.l1 n (a : Int) (b : Int) k m x (j : Int) (i : Int)) r
  | 0, i, x, he, hT => by
    refine Ev.s ?_
    simp only [spec_baRest.l1, if_neg (show ¬ (i : Int) ≤ (a : Int) by omega)]
    rw [w64 (n := (j : Int) + 1) (by omega) (by omega)]
    obtain rfl : i = a + 1 := by omega
    exact hnext x hT
  | e + 1, i, x, he, hT => by
    have hia : i ≤ a := by omega
    have ih := fun y hy => baRest_l1 H hk hA hB ha hb m hm j hj r hnext e (i + 1) y (by omega) hy
    rw [Int.natCast_add, Int.natCast_one] at ih
    have hmul : k * (B - j) = k * (B - b) + k * ((b : Int) - j) := by rw [← Int.mul_add]; congr 1; omega
    have m1 := mulk k (B - b) hk (by omega) (by omega)
    have m2 := mulk k ((b : Int) - j) hk (by omega) (by omega)
    have hlen := hT.len
    have hrow := hT.row
    have hcur : rd (rd_L1 x (j : Int)) (i : Int) = 0 := by rw [hT.got i hia, if_neg (by omega)]
    refine Ev.s ?_
    simp only [spec_baRest.l1, if_pos (show (i : Int) ≤ (a : Int) by omega)]
    have eat : m + ((a : Int) - i) - k * ((b : Int) - j) = A - i - k * (B - j) := by omega
    rw [w64 (n := (a : Int) - i) (by omega) (by omega), w64 (n := (b : Int) - j) (by omega) (by omega), w64 (n := k * ((b : Int) - j)) (by omega) (by omega), w64 (n := m + ((a : Int) - i)) (by omega) (by omega), w64 (n := m + ((a : Int) - i) - k * ((b : Int) - j)) (by omega) (by omega), eat, w64 (n := (i : Int) + j) (by omega) (by omega), w64 (n := A - i - k * (B - j) - k) (by omega) (by omega), w64 (n := (i : Int) + 1) (by omega) (by omega), w64 (n := (i : Int) - 1) (by omega) (by omega), w64 (n := (j : Int) - 1) (by omega) (by omega)]
    by_cases c0 : A - i - k * (B - j) < 0
    · simp only [if_pos c0]
      exact ih x (hT.skip (wF_out H (by omega) (by omega) (by omega) (by omega) (.inr (.inr ⟨by
        by_cases z : A - (i : Int) + (B - j) > 0
        · exact z
        · have z1 : B - (j : Int) = 0 := by omega
          rw [z1] at c0; omega, c0⟩))))
    · simp only [if_neg c0]
      by_cases c1 : (i : Int) + j = 0
      · simp only [if_pos c1, if_pos (show (0 : Int) ≤ (j : Int) by omega), if_pos (show (j : Int) < (x.length : Int) by omega), if_pos (show (0 : Int) ≤ (i : Int) by omega), if_pos (show (i : Int) < ((rd_L1 x (j : Int)).length : Int) by omega)]
        refine ih _ (hT.put hj hia 1 ?_)
        have z1 : i = 0 := by omega
        have z2 : j = 0 := by omega
        subst z1 z2
        simp only [Int.natCast_zero, Int.sub_zero] at c0 ⊢
        exact (wF_end H (by omega) (by omega) (by omega) (by omega) (by rintro ⟨_, h⟩; omega)).symm
      · simp only [if_neg c1]
        have hp := pt H hA hB ha hb i j hia hj (by omega) (by omega)
        have f1 : 0 < i → rd (rd_L1 x (j : Int)) ((i : Int) - 1) = F (A - ((i : Int) - 1)) (B - j) := fun h => by
          have := hT.got (i - 1) (by omega)
          rw [if_pos (by omega), show ((i - 1 : Nat) : Int) = (i : Int) - 1 from by omega] at this
          exact this
        have f2 : 0 < j → rd (rd_L1 x ((j : Int) - 1)) (i : Int) = F (A - i) (B - ((j : Int) - 1)) ∧ (rd_L1 x ((j : Int) - 1)).length = a + 1 := fun h => by
          have := hT.done (j - 1) (by omega)
          rw [show ((j - 1 : Nat) : Int) = (j : Int) - 1 from by omega] at this
          exact ⟨this.2 i hia, this.1⟩
        have b1 := H.le (A - ((i : Int) - 1)) (B - j)
        have b2 := H.le (A - i) (B - ((j : Int) - 1))
        have b3 := H.nn (A - ((i : Int) - 1)) (B - j)
        have b4 := H.nn (A - i) (B - ((j : Int) - 1))
        by_cases ci : 0 < i
        · rw [if_pos ci] at hp
          have e1 := f1 ci
          simp only [if_pos (show (i : Int) > 0 by omega), if_pos (show (0 : Int) ≤ (j : Int) by omega), if_pos (show (j : Int) < (x.length : Int) by omega), if_pos (show (0 : Int) ≤ (i : Int) by omega), if_pos (show (i : Int) < ((rd_L1 x (j : Int)).length : Int) by omega), if_pos (show (0 : Int) ≤ (i : Int) - 1 by omega), if_pos (show (i : Int) - 1 < ((rd_L1 x (j : Int)).length : Int) by omega), Option.bind_some]
          rw [hcur, e1, Int.zero_add, w64 (n := F (A - ((i : Int) - 1)) (B - j)) (by omega) (by omega)]
          have hy := L1_set x (j : Int) ((rd_L1 x (j : Int)).set (i : Int).toNat (F (A - ((i : Int) - 1)) (B - j))) (j : Int) (by omega) (by omega) (by omega)
          rw [if_pos rfl] at hy
          by_cases cj : (j : Int) > 0
          · by_cases cg : A - i - k * (B - j) - k ≥ 0
            · have hy2 := L1_set x (j : Int) ((rd_L1 x (j : Int)).set (i : Int).toNat (F (A - ((i : Int) - 1)) (B - j))) ((j : Int) - 1) (by omega) (by omega) (by omega)
              rw [if_neg (by omega)] at hy2
              have e2 := f2 (by omega)
              have hyl : ((rd_L1 (x.set (j : Int).toNat ((rd_L1 x (j : Int)).set (i : Int).toNat (F (A - ((i : Int) - 1)) (B - j)))) (j : Int)).length : Int) = a + 1 := by rw [hy, List.length_set]; omega
              have hyl2 : ((rd_L1 (x.set (j : Int).toNat ((rd_L1 x (j : Int)).set (i : Int).toNat (F (A - ((i : Int) - 1)) (B - j)))) ((j : Int) - 1)).length : Int) = a + 1 := by rw [hy2]; omega
              have hrd : rd (rd_L1 (x.set (j : Int).toNat ((rd_L1 x (j : Int)).set (i : Int).toNat (F (A - ((i : Int) - 1)) (B - j)))) (j : Int)) (i : Int) = F (A - ((i : Int) - 1)) (B - j) := by
                rw [hy, rd_set _ _ _ _ (by omega) (by omega) (by omega), if_pos rfl]
              have hrd2 : rd (rd_L1 (x.set (j : Int).toNat ((rd_L1 x (j : Int)).set (i : Int).toNat (F (A - ((i : Int) - 1)) (B - j)))) ((j : Int) - 1)) (i : Int) = F (A - i) (B - ((j : Int) - 1)) := by
                rw [hy2]; exact e2.1
              simp only [if_pos cj, if_pos cg, if_pos (show (i : Int) < ((rd_L1 (x.set (j : Int).toNat ((rd_L1 x (j : Int)).set (i : Int).toNat (F (A - ((i : Int) - 1)) (B - j)))) (j : Int)).length : Int) by omega), if_pos (show (0 : Int) ≤ (j : Int) - 1 by omega), if_pos (show (j : Int) - 1 < (x.length : Int) by omega), if_pos (show (i : Int) < ((rd_L1 (x.set (j : Int).toNat ((rd_L1 x (j : Int)).set (i : Int).toNat (F (A - ((i : Int) - 1)) (B - j)))) ((j : Int) - 1)).length : Int) by omega)]
              rw [hrd, hrd2, w64 (n := F (A - ((i : Int) - 1)) (B - j) + F (A - i) (B - ((j : Int) - 1))) (by omega) (by omega), set_two x (j : Int) (i : Int) _ _ (by omega) (by omega)]
              rw [if_pos ⟨by omega, by omega⟩] at hp
              exact ih _ (hT.put hj hia _ hp.symm)
            · simp only [if_pos cj, if_neg cg]
              rw [if_neg (fun z => cg z.2), Int.add_zero] at hp
              exact ih _ (hT.put hj hia _ hp.symm)
          · simp only [if_neg cj]
            rw [if_neg (fun z => cj (by omega)), Int.add_zero] at hp
            exact ih _ (hT.put hj hia _ hp.symm)
        · rw [if_neg ci, Int.zero_add] at hp
          simp only [if_neg (show ¬ (i : Int) > 0 by omega)]
          by_cases cj : (j : Int) > 0
          · by_cases cg : A - i - k * (B - j) - k ≥ 0
            · have e2 := f2 (by omega)
              simp only [if_pos cj, if_pos cg, if_pos (show (0 : Int) ≤ (j : Int) by omega), if_pos (show (j : Int) < (x.length : Int) by omega), if_pos (show (0 : Int) ≤ (i : Int) by omega), if_pos (show (i : Int) < ((rd_L1 x (j : Int)).length : Int) by omega), if_pos (show (0 : Int) ≤ (j : Int) - 1 by omega), if_pos (show (j : Int) - 1 < (x.length : Int) by omega), if_pos (show (i : Int) < ((rd_L1 x ((j : Int) - 1)).length : Int) by omega)]
              rw [hcur, e2.1, Int.zero_add, w64 (n := F (A - i) (B - ((j : Int) - 1))) (by omega) (by omega)]
              rw [if_pos ⟨by omega, by omega⟩] at hp
              exact ih _ (hT.put hj hia _ hp.symm)
            · simp only [if_pos cj, if_neg cg]
              rw [if_neg (fun z => cg z.2)] at hp
              exact ih _ (hT.skip hp)
          · simp only [if_neg cj]
            rw [if_neg (fun z => cj (by omega))] at hp
            exact ih _ (hT.skip hp)
theorem baRest_l0 {a b : Nat} (H : OnF (OutN k 0) A B F) (hk : 1 ≤ k ∧ k ≤ 5) (hA : 0 ≤ A ∧ A ≤ 40) (hB : 0 ≤ B ∧ B ≤ 40) (ha : (a : Int) ≤ A) (hb : (b : Int) ≤ B) (m : Int) (hm : m = A - a - k * (B - b)) : ∀ (e j : Nat) (x : List (List Int)), j + e = b + 1 → x.length = b + 1 →
    (∀ j' : Nat, j' < j → (rd_L1 x (j' : Int)).length = a + 1 ∧ ∀ i' : Nat, i' ≤ a → rd (rd_L1 x (j' : Int)) (i' : Int) = F (A - i') (B - j')) → Ev (fun n => spec_baRest.l0 n (a : Int) (b : Int) k m x (j : Int)) (F (A - a) (B - b))
  | 0, j, x, he, hl, hd => by
    refine Ev.s ?_
    have := hd b (by omega)
    have hlen := this.1
    simp only [spec_baRest.l0, if_neg (show ¬ (j : Int) ≤ (b : Int) by omega), if_pos (show (0 : Int) ≤ (b : Int) by omega), if_pos (show (b : Int) < (x.length : Int) by omega), if_pos (show (0 : Int) ≤ (a : Int) by omega), if_pos (show (a : Int) < ((rd_L1 x (b : Int)).length : Int) by omega)]
    rw [this.2 a (Nat.le_refl _)]
    exact Ev.now _
  | e + 1, j, x, he, hl, hd => by
    refine Ev.s ?_
    have hlr : rd_L1 (x.set (j : Int).toNat (List.replicate ((a : Int) + 1).toNat 0)) (j : Int) = List.replicate ((a : Int) + 1).toNat 0 := by
      rw [L1_set _ _ _ _ (by omega) (by omega) (by omega), if_pos rfl]
    simp only [spec_baRest.l0, if_pos (show (j : Int) ≤ (b : Int) by omega)]
    rw [w64 (n := (a : Int) + 1) (by omega) (by omega)]
    simp only [if_pos (show (0 : Int) ≤ (a : Int) + 1 by omega), if_pos (show ((a : Int) + 1).toNat ≤ 35184372088832 by omega), if_pos (show (0 : Int) ≤ (j : Int) by omega), if_pos (show (j : Int) < (x.length : Int) by omega)]
    refine baRest_l1 H hk hA hB ha hb m hm j (by omega) _ (fun y hy => ?_) (a + 1) 0 _ (by omega) ⟨by rw [List.length_set]; exact hl, fun j' hj' => ?_, by rw [hlr, List.length_replicate]; omega, fun i' hi' => ?_⟩
    · have := baRest_l0 H hk hA hB ha hb m hm e (j + 1) y (by omega) hy.len (fun j' hj' => by
        by_cases c : j' < j
        · exact hy.done j' c
        · obtain rfl : j' = j := by omega
          refine ⟨hy.row, fun i' hi' => ?_⟩
          rw [hy.got i' hi', if_pos (by omega)])
      rw [Int.natCast_add, Int.natCast_one] at this
      exact this
    · rw [L1_set _ _ _ _ (by omega) (by omega) (by omega), if_neg (by omega)]
      exact hd j' hj'
    · rw [hlr, if_neg (by omega)]
      unfold rd
      rw [List.getD_eq_getElem?_getD, List.getElem?_replicate]
      split <;> rfl
theorem baRest_ev (H : OnF (OutN k 0) A B F) (hk : 1 ≤ k ∧ k ≤ 5) (hA : 0 ≤ A ∧ A ≤ 40) (hB : 0 ≤ B ∧ B ≤ 40) (u d : Int) (hu : 0 ≤ u ∧ u ≤ A) (hd : 0 ≤ d ∧ d ≤ B) : Ev (fun n => spec_baRest.f n (A - u) (B - d) k (u - k * d)) (F u d) := by
  obtain ⟨a, ha⟩ : ∃ a : Nat, A - u = (a : Int) := ⟨(A - u).toNat, by omega⟩
  obtain ⟨b, hb⟩ : ∃ b : Nat, B - d = (b : Int) := ⟨(B - d).toNat, by omega⟩
  rw [ha, hb]
  unfold spec_baRest.f
  rw [w64 (n := (b : Int) + 1) (by omega) (by omega)]
  simp only [if_pos (show (0 : Int) ≤ (b : Int) + 1 by omega), if_pos (show ((b : Int) + 1).toNat ≤ 11728124029610 by omega)]
  have := baRest_l0 H hk hA hB (a := a) (b := b) (by omega) (by omega) (u - k * d) (by rw [show B - (b : Int) = d from by omega]; omega) (b + 1) 0 (List.replicate ((b : Int) + 1).toNat []) (by omega) (by rw [List.length_replicate]; omega) (fun j' hj' => by omega)
  rw [show A - (a : Int) = u from by omega, show B - (b : Int) = d from by omega] at this
  exact this
end

theorem Onf_on (a b k l : Int) (hs : Steps a b) : OnF (OutN k l) a b (Onf a b k l) := wayF_on (OutN k l) a b hs.1.1 hs.2.1.1 hs.2.2

theorem bt_cons (s : ByteArray) (i : Nat) (h : i < s.size) : ∃ c, s.data.toList.drop i = c :: s.data.toList.drop (i + 1) ∧ bt s (i : Int) = (c.toNat : Int) := by
  obtain ⟨h', e⟩ := btl s i h
  exact ⟨s.data.toList[i], List.drop_eq_getElem_cons h', e⟩
theorem paCount_ev (s : ByteArray) (hn : s.size ≤ 1048576) (c : UInt8) : Ev (fun k => spec_paCount.f k s (c.toNat : Int)) ((s.data.toList.count c : Nat) : Int) := by
  have key : ∀ (n i m : Nat), i + n = s.size → m ≤ i → Ev (fun k => spec_paCount.l0 k s (c.toNat : Int) (m : Int) (i : Int)) ((m + (s.data.toList.drop i).count c : Nat) : Int) := by
    intro n
    induction n with
    | zero =>
      intro i m hi hm
      refine Ev.s ?_
      simp only [spec_paCount.l0, if_neg (show ¬ (i : Int) < (s.size : Int) by omega)]
      rw [List.drop_eq_nil_of_le (by rw [bl]; omega)]
      exact Ev.now _
    | succ n ih =>
      intro i m hi hm
      refine Ev.s ?_
      obtain ⟨x, hx, hb⟩ := bt_cons s i (by omega)
      simp only [spec_paCount.l0, if_pos (show (i : Int) < (s.size : Int) by omega), if_pos (show (0 : Int) ≤ (i : Int) by omega)]
      rw [w64 (n := (i : Int) + 1) (by omega) (by omega), hb, hx, List.count_cons, w64 (n := (m : Int) + 1) (by omega) (by omega)]
      by_cases e : x = c
      · subst e
        simp only [if_true, beq_self_eq_true]
        have := ih (i + 1) (m + 1) (by omega) (by omega)
        rw [show ((i + 1 : Nat) : Int) = (i : Int) + 1 from by omega, show ((m + 1 : Nat) : Int) = (m : Int) + 1 from by omega] at this
        refine Ev.e this ?_
        omega
      · have e1 : ¬ ((x.toNat : Int) = (c.toNat : Int)) := fun h => e (UInt8.toNat_inj.1 (by omega))
        have e2 : (x == c) = false := by simpa using e
        simp only [if_neg e1, e2, Bool.false_eq_true, if_false]
        have := ih (i + 1) m (by omega) (by omega)
        rw [Int.natCast_add, Int.natCast_one] at this
        refine Ev.e this ?_
        omega
  unfold spec_paCount.f
  have := key s.size 0 0 (by omega) (by omega)
  rw [List.drop_zero] at this
  refine Ev.e this ?_
  omega
theorem count_two : ∀ l : List UInt8, l.all stp = true → l.count 85 + l.count 68 = l.length
  | [], _ => rfl
  | x :: t, h => by
    rw [List.all_cons, Bool.and_eq_true] at h
    have ih := count_two t h.2
    rw [List.count_cons, List.count_cons, List.length_cons]
    unfold stp at h
    have h1 := h.1
    rw [Bool.or_eq_true] at h1
    rcases h1 with h1 | h1
    · have : x = 85 := by simpa using h1
      subst this
      simp; omega
    · have : x = 68 := by simpa using h1
      subst this
      simp; omega
/-- How many U and D a path has. -/
def nU (s : ByteArray) : Int := ((s.data.toList.count 85 : Nat) : Int)
def nD (s : ByteArray) : Int := ((s.data.toList.count 68 : Nat) : Int)
theorem counts_eq (s : ByteArray) : impl_counts.f s = some (nU s, nD s) := rfl
theorem steps_U (s : ByteArray) (g : GoodP s = true) : Steps (nU s) (nD s) := by
  obtain ⟨h1, h2⟩ := GoodP_iff g
  have := count_two _ h2
  rw [bl] at this
  unfold nU nD
  exact ⟨by omega, by omega, by omega⟩
theorem wrap_in (x : Int) : -9223372036854775808 ≤ wrap64 x ∧ wrap64 x ≤ 9223372036854775807 := by unfold wrap64; omega
theorem specRank_l0 (s : ByteArray) (g : GoodP s = true) (c : Int) (hc : 1 ≤ c ∧ c ≤ 5) (F : Int → Int → Int) (H : OnF (OutN c 0) (nU s) (nD s) F) : ∀ (n i : Nat) (u d r : Int), i + n = s.size → 0 ≤ u → 0 ≤ d → u + ((s.data.toList.drop i).count 85 : Nat) = nU s → d + ((s.data.toList.drop i).count 68 : Nat) = nD s → -9223372036854775808 ≤ r → r ≤ 9223372036854775807 →
    Ev (fun k => spec_RankNeverBehind.l0 k s c (nU s - u) (nD s - d) r (u - c * d) (i : Int)) (rkB F s n (i : Int) u d r, true)
  | 0, i, u, d, r, hi, hu, hd, hU, hD, hr1, hr2 => by
    refine Ev.s ?_
    simp only [spec_RankNeverBehind.l0, if_neg (show ¬ (i : Int) < (s.size : Int) by omega)]
    exact Ev.now _
  | n + 1, i, u, d, r, hi, hu, hd, hU, hD, hr1, hr2 => by
    have ⟨hA, hB, hAB⟩ := steps_U s g
    obtain ⟨g1, g2⟩ := GoodP_iff g
    obtain ⟨x, hx, hb⟩ := bt_cons s i (by omega)
    have hm1 := mulk c d hc (by omega) (by omega)
    have hm2 : c * (d + 1) = c * d + c := by rw [Int.mul_add, Int.mul_one]
    have hst : stp x = true := by
      have : (s.data.toList.drop i).all stp = true := List.all_eq_true.2 (fun y hy => List.all_eq_true.1 g2 y (List.mem_of_mem_drop hy))
      rw [hx, List.all_cons, Bool.and_eq_true] at this
      exact this.1
    refine Ev.s ?_
    simp only [spec_RankNeverBehind.l0, if_pos (show (i : Int) < (s.size : Int) by omega), if_pos (show (0 : Int) ≤ (i : Int) by omega)]
    rw [w64 (n := (i : Int) + 1) (by omega) (by omega), hb]
    rw [hx, List.count_cons] at hU hD
    by_cases e : x = 68
    · subst e
      simp only [show (((68 : UInt8).toNat : Nat) : Int) = 68 from rfl, if_true]
      rw [w64 (n := nD s - d - 1) (by omega) (by omega), w64 (n := u - c * d - c) (by omega) (by omega)]
      have := specRank_l0 s g c hc F H n (i + 1) u (d + 1) r (by omega) hu (by omega) (by simpa using hU) (by simp at hD; omega) hr1 hr2
      rw [Int.natCast_add, Int.natCast_one, show nD s - (d + 1) = nD s - d - 1 from by omega, show u - c * (d + 1) = u - c * d - c from by omega] at this
      rw [rkB, hb, if_neg (by decide)]
      exact this
    · have e' : x = 85 := by
        unfold stp at hst
        rw [Bool.or_eq_true] at hst
        rcases hst with h | h
        · simpa using h
        · exact absurd (by simpa using h) e
      subst e'
      have hU' : u + 1 + ((s.data.toList.drop (i + 1)).count 85 : Nat) = nU s := by simp at hU; omega
      have hD' : d + ((s.data.toList.drop (i + 1)).count 68 : Nat) = nD s := by simpa using hD
      simp only [show (((85 : UInt8).toNat : Nat) : Int) = 85 from rfl, if_neg (show ¬ ((85 : Int) = 68) by decide)]
      rw [w64 (n := nU s - u - 1) (by omega) (by omega), w64 (n := u - c * d + 1) (by omega) (by omega), w64 (n := nD s - d - 1) (by omega) (by omega), w64 (n := u - c * d - c) (by omega) (by omega)]
      rw [rkB, hb, if_pos (show (((85 : UInt8).toNat : Nat) : Int) = 85 from rfl)]
      have go : ∀ r', -9223372036854775808 ≤ r' → r' ≤ 9223372036854775807 → Ev (fun k => spec_RankNeverBehind.l0 k s c (nU s - u - 1) (nD s - d) r' (u - c * d + 1) ((i : Int) + 1)) (rkB F s n ((i : Int) + 1) (u + 1) d r', true) := fun r' h1 h2 => by
        have := specRank_l0 s g c hc F H n (i + 1) (u + 1) d r' (by omega) (by omega) hd hU' hD' h1 h2
        rw [Int.natCast_add, Int.natCast_one, show nU s - (u + 1) = nU s - u - 1 from by omega, show u + 1 - c * d = u - c * d + 1 from by omega] at this
        exact this
      have hw := wrap_in (r + F u (d + 1))
      by_cases c1 : nD s - d > 0
      · by_cases c2 : u - c * d ≥ c
        · simp only [if_pos c1, if_pos c2]
          have hr := baRest_ev H hc hA hB u (d + 1) ⟨hu, by omega⟩ ⟨by omega, by omega⟩
          rw [show nD s - (d + 1) = nD s - d - 1 from by omega, show u - c * (d + 1) = u - c * d - c from by omega] at hr
          exact Ev.bs hr (go _ hw.1 hw.2)
        · simp only [if_pos c1, if_neg c2]
          have hz : F u (d + 1) = 0 := wF_out H hu (by omega) (by omega) (by omega) (.inr (.inr ⟨by omega, by omega⟩))
          rw [hz, Int.add_zero, w64 hr1 hr2]
          exact go r hr1 hr2
      · simp only [if_neg c1]
        have hz : F u (d + 1) = 0 := wF_out H hu (by omega) (by omega) (by omega) (.inr (.inl (by omega)))
        rw [hz, Int.add_zero, w64 hr1 hr2]
        exact go r hr1 hr2
theorem fnd_pos (p : Nat → Int → Bool) (xs : List Int) : decide (((fnd p 0 xs).map (fun i : Nat => (i : Int))).getD (-1) ≥ 0) = !(fnd p 0 xs).isNone := by
  have := fnd_neg p xs
  rw [← this]
  by_cases h : ((fnd p 0 xs).map (fun i : Nat => (i : Int))).getD (-1) < 0
  · rw [decide_eq_true h, decide_eq_false (by omega)]; rfl
  · rw [decide_eq_false h, decide_eq_true (by omega)]; rfl
theorem FnExactRankNeverBehind : laws_FnExactRankNeverBehind.Pure := by
  intro s q _ _
  refine Ev.rounds ?_
  unfold laws_FnExactRankNeverBehind.f
  by_cases h : (s.size : Int) > 1048576
  · simp only [if_pos h]; exact Ev.now _
  simp only [if_neg h]
  unfold spec_RankNeverBehind.f impl_RankNeverBehind.f
  rw [isVote_eq s (by omega) q]
  by_cases a : AskB s q = true
  · obtain ⟨g, hq⟩ := AskB_iff a
    have hn := (GoodP_iff g).1
    have hs := steps_U s g
    have ⟨hA, hB, hAB⟩ := hs
    by_cases nb : (fnd (tst (-1)) 0 (ML q s)).isNone = true
    · refine Ev.bs (a := (RB (Onf (nU s) (nD s) q 0) s, true)) (Ev.bs (baAsked_ev s (by omega) q) ?_) ?_
      · simp only [a, if_true]
        refine Ev.bs (baFirst_ev s g q (by omega) (-1)) ?_
        simp only [fnd_pos, nb, Bool.not_true]
        refine Ev.s ?_
        simp only [spec_RankNeverBehind.j0, Bool.false_eq_true, if_false]
        refine Ev.bs (paCount_ev s (by omega) 85) (Ev.bs (paCount_ev s (by omega) 68) ?_)
        have := specRank_l0 s g q hq (Onf (nU s) (nD s) q 0) (Onf_on _ _ q 0 hs) s.size 0 0 0 0 (by omega) (by omega) (by omega) (by rw [List.drop_zero]; unfold nU; omega) (by rw [List.drop_zero]; unfold nD; omega) (by omega) (by omega)
        rw [show nU s - 0 = nU s from by omega, show nD s - 0 = nD s from by omega, show (0 : Int) - q * 0 = 0 from by omega] at this
        exact this
      · simp only [Option.bind_some, a, if_true, Option.bind_assoc]
        refine Ev.bs (neverB_ev s hn q (by omega)) ?_
        simp only [nb, if_true, counts_eq, Option.bind_some]
        rw [if_pos ⟨hA.1, hA.2, hB.1, hB.2, hAB, by omega, hq.2, hn⟩]
        exact Ev.c (by simp)
    · refine Ev.bs (a := (0, false)) (Ev.bs (baAsked_ev s (by omega) q) ?_) ?_
      · simp only [a, if_true]
        refine Ev.bs (baFirst_ev s g q (by omega) (-1)) ?_
        have nb' : (fnd (tst (-1)) 0 (ML q s)).isNone = false := (Bool.not_eq_true _).mp nb
        simp only [fnd_pos, nb', Bool.not_false]
        refine Ev.s ?_
        simp only [spec_RankNeverBehind.j0, if_true]
        exact Ev.now _
      · simp only [Option.bind_some, a, if_true, Option.bind_assoc]
        refine Ev.bs (neverB_ev s hn q (by omega)) ?_
        have nb' : (fnd (tst (-1)) 0 (ML q s)).isNone = false := (Bool.not_eq_true _).mp nb
        simp only [nb', Bool.false_eq_true, if_false, Option.bind_some]
        exact Ev.c (by simp)
  · refine Ev.bs (a := (0, false)) (Ev.bs (baAsked_ev s (by omega) q) ?_) ?_
    · simp only [if_neg a]
      refine Ev.s ?_
      simp only [spec_RankNeverBehind.j0, if_true]
      exact Ev.now _
    · simp only [Option.bind_some, if_neg a]
      exact Ev.c (by simp)

end Go.Proofs.YtglhnhinbdfpbaaDoor.Pure
