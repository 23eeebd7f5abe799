/- The plain law of the statement FnExactIsNeverBehind: what the program's function computes is what the reference's computes, for all arguments; no condition. -/
import Derived.Test.YtdidmodedgiijaaDoorPFnExactIsNeverBehindx2
namespace Go.Proofs.YtdidmodedgiijaaDoor.Pure
open Go.RowKit Go.Proofs.YtdidmodedgiijaaDoor.PFnExactIsNeverBehind Go.Proofs.YtdidmodedgiijaaDoorW.PrintWords Go.Proofs.YtdidmodedgiijaaDoorW.PrintLast Go.Proofs.YtdidmodedgiijaaDoorW.PrintMore

theorem Ev.s {α : Type} {g : Nat → Option α} {r : α} (h : Ev (fun k => g (k + 1)) r) : Ev g r := by
  obtain ⟨K, hK⟩ := h
  refine ⟨K + 1, fun k hk => ?_⟩
  obtain ⟨m, rfl⟩ : ∃ m, k = m + 1 := ⟨k - 1, by omega⟩
  exact hK m (by omega)
theorem Ev.c {α : Type} {o : Option α} {r : α} (h : o = some r) : Ev (fun _ => o) r := ⟨0, fun _ _ => h⟩
theorem Ev.u {α : Type} {g : Nat → Option α} {r r' : α} (h : Ev g r) (h' : Ev g r') : r = r' := by
  obtain ⟨K, hK⟩ := h
  obtain ⟨K', hK'⟩ := h'
  have a := hK (max K K') (by omega)
  have b := hK' (max K K') (by omega)
  rw [a] at b
  exact Option.some.inj b
theorem Ev.e {α : Type} {g : Nat → Option α} {r r' : α} (h : Ev g r) (e : r = r') : Ev g r' := e ▸ h
theorem Ev.bs {α β : Type} {g : Nat → Option α} {f : Nat → α → Option β} {a : α} {r : β} (h : Ev g a) (k : Ev (fun n => f n a) r) : Ev (fun n => Option.bind (g n) (f n)) r := Ev.bind h k
theorem w64 {n : Int} (h : -9223372036854775808 ≤ n) (h' : n ≤ 9223372036854775807) : wrap64 n = n := by unfold wrap64; omega
theorem rd_set (l : List Int) (i j : Int) (v : Int) (hi : 0 ≤ i) (hj : 0 ≤ j) (hl : i < (l.length : Int)) : rd (l.set i.toNat v) j = if i = j then v else rd l j := by
  unfold rd
  rw [List.getD_eq_getElem?_getD, List.getD_eq_getElem?_getD, List.getElem?_set]
  by_cases e : i = j
  · subst e; rw [if_pos rfl, if_pos rfl, if_pos (by omega)]; rfl
  · rw [if_neg (by omega), if_neg e]

theorem in_eq (a b c : Int) : impl_in.f a b c = some (decide (b ≤ a ∧ a ≤ c)) := by
  unfold impl_in.f
  by_cases h : b ≤ a
  · rw [if_pos h]; simp [h]
  · rw [if_neg h]; simp [h]

theorem l1In_eq (a b c : Int) : spec_l1In.f a b c = some (decide (b ≤ a ∧ a ≤ c)) := by
  unfold spec_l1In.f
  by_cases h : a ≥ b
  · rw [if_pos h]; simp [h]
  · rw [if_neg h]; simp [h]

theorem drop_rd (l : List Int) (i : Nat) (h : i < l.length) : l.drop i = rd l (i : Int) :: l.drop (i + 1) := by
  rw [List.drop_eq_getElem_cons h]
  unfold rd
  rw [Int.toNat_natCast, List.getD_eq_getElem?_getD, List.getElem?_eq_getElem h]
  rfl
theorem rd_get (l : List Int) (i : Nat) (h : i < l.length) : rd l (i : Int) = l[i] := by
  unfold rd
  rw [Int.toNat_natCast, List.getD_eq_getElem?_getD, List.getElem?_eq_getElem h]
  rfl
theorem wsucc (i n : Nat) (h : i < n) (hn : n ≤ 9223372036854775807) : wrap64 ((i : Int) + 1) = ((i + 1 : Nat) : Int) := by
  rw [w64 (by omega) (by omega)]; omega
theorem rd_cons_succ (x : Int) (l : List Int) (i : Nat) : rd (x :: l) ((i + 1 : Nat) : Int) = rd l (i : Int) := by
  unfold rd
  simp only [Int.toNat_natCast, List.getD_cons_succ]
theorem rd_cons_zero (x : Int) (l : List Int) : rd (x :: l) 0 = x := rfl

/-- A loop over a list, with its places. -/
def foldI {α : Type} (step : α → Nat → Int → α) : α → Nat → List Int → α
  | a, _, [] => a
  | a, i, x :: r => foldI step (step a i x) (i + 1) r
theorem loopL {α β : Type} {g : Nat → α → Int → Option β} {xs : List Int} {step : α → Nat → Int → α} {fin : α → β} (Inv : α → Nat → Prop)
    (hs : ∀ (k : Nat) (a : α) (i : Nat), Inv a i → i < xs.length → g (k + 1) a (i : Int) = g k (step a i (rd xs (i : Int))) ((i + 1 : Nat) : Int))
    (hi : ∀ (a : α) (i : Nat), Inv a i → i < xs.length → Inv (step a i (rd xs (i : Int))) (i + 1))
    (hf : ∀ (k : Nat) (a : α), Inv a xs.length → g (k + 1) a (xs.length : Int) = some (fin a)) :
    ∀ (d : Nat) (a : α) (i : Nat), i + d = xs.length → Inv a i → Ev (fun k => g k a (i : Int)) (fin (foldI step a i (xs.drop i))) := by
  intro d
  induction d with
  | zero =>
    intro a i h h0
    obtain rfl : i = xs.length := by omega
    refine Ev.s ?_
    simp only [hf _ a h0]
    rw [List.drop_of_length_le (Nat.le_refl _)]
    exact Ev.now _
  | succ d ih =>
    intro a i h h0
    refine Ev.s ?_
    simp only [hs _ a i h0 (by omega)]
    rw [drop_rd xs i (by omega)]
    exact ih _ (i + 1) (by omega) (hi a i h0 (by omega))
theorem loop0 {α β : Type} {g : Nat → α → Int → Option β} {xs : List Int} {step : α → Nat → Int → α} {fin : α → β} (Inv : α → Nat → Prop)
    (hs : ∀ (k : Nat) (a : α) (i : Nat), Inv a i → i < xs.length → g (k + 1) a (i : Int) = g k (step a i (rd xs (i : Int))) ((i + 1 : Nat) : Int))
    (hi : ∀ (a : α) (i : Nat), Inv a i → i < xs.length → Inv (step a i (rd xs (i : Int))) (i + 1))
    (hf : ∀ (k : Nat) (a : α), Inv a xs.length → g (k + 1) a (xs.length : Int) = some (fin a)) (a : α) (h0 : Inv a 0) :
    Ev (fun k => g k a 0) (fin (foldI step a 0 xs)) := by
  have := loopL Inv hs hi hf xs.length a 0 (by omega) h0
  rwa [List.drop_zero] at this

theorem bl (s : ByteArray) : s.data.toList.length = s.size := by rw [Array.length_toList]; rfl
theorem btl (s : ByteArray) (i : Nat) (h : i < s.size) : ∃ hi : i < s.data.toList.length, bt s (i : Int) = ((s.data.toList[i]'hi).toNat : Int) := by
  refine ⟨by rw [bl]; exact h, ?_⟩
  unfold bt
  rw [dif_pos (by simpa using h)]
  rfl
theorem u8_eq (c : UInt8) (n : Nat) (hn : n < 256) : ((c.toNat : Int) = (n : Int)) ↔ c = UInt8.ofNat n := by
  have e : (UInt8.ofNat n).toNat = n := by rw [UInt8.toNat_ofNat', Nat.mod_eq_of_lt hn]
  constructor
  · intro h
    have : c.toNat = n := by omega
    exact UInt8.toNat_inj.1 (by rw [e]; exact this)
  · intro h
    subst h
    rw [e]
theorem bt_eq (s : ByteArray) (i : Nat) (h : i < s.size) (n : Nat) (hn : n < 256) : bt s (i : Int) = (n : Int) ↔ s.data.toList[i]? = some (UInt8.ofNat n) := by
  obtain ⟨h', e⟩ := btl s i h
  rw [e, u8_eq _ n hn, List.getElem?_eq_getElem h']
  simp
theorem toList_eq (s : ByteArray) : s.toList = s.data.toList := by
  exact ByteArray.toList_eq s

/-- Is this byte a step? -/
def stp (c : UInt8) : Bool := c == 85 || c == 68
/-- Is this text a path? -/
def GoodP (s : ByteArray) : Bool := decide (s.size ≤ 40) && s.data.toList.all stp
theorem GoodP_iff {s : ByteArray} (h : GoodP s = true) : s.size ≤ 40 ∧ s.data.toList.all stp = true := by
  unfold GoodP at h
  simpa using h
theorem paGood_l0 (s : ByteArray) (hn : s.size ≤ 1048576) (d : Nat) : ∀ (i : Nat), i + d = s.size → Ev (fun k => spec_paGood.l0 k s (i : Int)) ((s.data.toList.drop i).all stp) := by
  induction d with
  | zero =>
    intro i h
    refine Ev.s ?_
    have c : ¬ ((i : Int) < (s.size : Int)) := by omega
    simp only [spec_paGood.l0, if_neg c]
    rw [List.drop_of_length_le (by rw [bl]; omega)]
    exact Ev.now _
  | succ d ih =>
    intro i h
    refine Ev.s ?_
    have c1 : ((i : Int) < (s.size : Int)) := by omega
    have c2 : (0 : Int) ≤ (i : Int) := by omega
    have e := wsucc i s.size (by omega) (by omega)
    obtain ⟨h', hb⟩ := btl s i (by omega)
    rw [List.drop_eq_getElem_cons h', List.all_cons]
    have h85 : bt s (i : Int) = 85 ↔ s.data.toList[i] = 85 := by rw [hb]; exact u8_eq _ 85 (by omega)
    have h68 : bt s (i : Int) = 68 ↔ s.data.toList[i] = 68 := by rw [hb]; exact u8_eq _ 68 (by omega)
    simp only [spec_paGood.l0, if_pos c1, if_pos c2, e]
    by_cases a : bt s (i : Int) = 85
    · simp only [if_pos a]
      have : stp s.data.toList[i] = true := by rw [h85.1 a]; rfl
      rw [this, Bool.true_and]
      exact ih (i + 1) (by omega)
    · simp only [if_neg a]
      by_cases b : bt s (i : Int) = 68
      · simp only [if_pos b]
        have : stp s.data.toList[i] = true := by rw [h68.1 b]; rfl
        rw [this, Bool.true_and]
        exact ih (i + 1) (by omega)
      · simp only [if_neg b]
        have : stp s.data.toList[i] = false := by
          unfold stp
          rw [h85] at a
          rw [h68] at b
          rw [beq_eq_false_iff_ne.2 a, beq_eq_false_iff_ne.2 b]; rfl
        rw [this, Bool.false_and]
        exact Ev.now _
theorem paGood_ev (s : ByteArray) (hn : s.size ≤ 1048576) : Ev (fun k => spec_paGood.f k s) (GoodP s) := by
  unfold spec_paGood.f GoodP
  by_cases h : (s.size : Int) > 40
  · simp only [if_pos h]
    rw [decide_eq_false (by omega), Bool.false_and]
    exact Ev.now _
  · simp only [if_neg h]
    rw [decide_eq_true (by omega), Bool.true_and]
    exact paGood_l0 s hn s.size 0 (by omega)
theorem dropW_nil (p : UInt8 → Bool) : ∀ l : List UInt8, l.dropWhile p = [] ↔ l.all p = true
  | [] => by simp
  | c :: r => by
    by_cases h : p c = true
    · simp [h, dropW_nil p r]
    · simp [h]
theorem all_dropW (p : UInt8 → Bool) : ∀ l : List UInt8, (l.dropWhile p).all p = l.all p
  | [] => rfl
  | c :: r => by
    by_cases h : p c = true
    · simp only [List.dropWhile_cons, h, if_true, List.all_cons, Bool.true_and]; exact all_dropW p r
    · simp only [List.dropWhile_cons, h, Bool.false_eq_true, if_false]
theorem trim_nil (l : List UInt8) : Lib.trimS l [85, 68] = [] ↔ l.all stp = true := by
  have e : (fun c : UInt8 => [85, 68].contains c) = stp := by
    funext c
    unfold stp
    simp only [List.contains_cons, List.contains_nil, Bool.or_false]
  unfold Lib.trimS Lib.trimLeftS Lib.trimRightS
  rw [e, dropW_nil, List.all_reverse, all_dropW, List.all_reverse]
theorem isPath_eq (s : ByteArray) (hn : s.size ≤ 1048576000) : impl_IsPath.f s = some (GoodP s) := by
  unfold impl_IsPath.f GoodP
  by_cases h : (s.size : Int) ≤ 40
  · rw [if_pos h, decide_eq_true (by omega), Bool.true_and]
    unfold strings_Trim.f
    rw [if_pos ⟨by omega, by decide, by decide⟩]
    simp only [Option.bind_some, toList_eq]
    congr 1
    rw [Bool.eq_iff_iff, beq_iff_eq]
    exact trim_nil _
  · rw [if_neg h, decide_eq_false (by omega), Bool.false_and]

/-- The heights of a text from a height on. -/
def hs (st : UInt8 → Int) : Int → List UInt8 → List Int
  | h, [] => [h]
  | h, c :: r => h :: hs st (h + st c) r
theorem hs_len (st : UInt8 → Int) : ∀ (l : List UInt8) (h : Int), (hs st h l).length = l.length + 1
  | [], h => rfl
  | c :: r, h => by simp only [hs, List.length_cons, hs_len st r]
theorem hs_zero (st : UInt8 → Int) (l : List UInt8) (h : Int) : rd (hs st h l) 0 = h := by cases l <;> rfl
theorem hs_succ (st : UInt8 → Int) : ∀ (l : List UInt8) (h : Int) (i : Nat) (hi : i < l.length), rd (hs st h l) ((i + 1 : Nat) : Int) = rd (hs st h l) (i : Int) + st l[i]
  | c :: r, h, 0, hi => by
    simp only [hs]
    rw [rd_cons_succ]
    exact hs_zero st r _
  | c :: r, h, i + 1, hi => by
    simp only [hs, List.getElem_cons_succ]
    rw [rd_cons_succ, rd_cons_succ]
    exact hs_succ st r _ i (by simpa using hi)
theorem hs_bd (st : UInt8 → Int) (B : Int) (hB : ∀ c, -B ≤ st c ∧ st c ≤ B) (l : List UInt8) (h : Int) : ∀ (i : Nat), i ≤ l.length → h - B * i ≤ rd (hs st h l) (i : Int) ∧ rd (hs st h l) (i : Int) ≤ h + B * i
  | 0, _ => by
    have := hs_zero st l h
    simp only [Int.natCast_zero, this]; simp
  | i + 1, hi => by
    have ih := hs_bd st B hB l h i (by omega)
    rw [hs_succ st l h i (by omega)]
    have := hB l[i]
    have e : B * ((i + 1 : Nat) : Int) = B * (i : Int) + B := by rw [Int.natCast_add, Int.mul_add]; simp
    rw [e]
    omega
theorem rd_take (l : List Int) (n i : Nat) (h : i < n) : rd (l.take n) (i : Int) = rd l (i : Int) := by
  unfold rd
  rw [Int.toNat_natCast, List.getD_eq_getElem?_getD, List.getD_eq_getElem?_getD, List.getElem?_take_of_lt h]
theorem take_rd (l : List Int) (n : Nat) (h : n < l.length) : l.take (n + 1) = l.take n ++ [rd l (n : Int)] := by
  rw [List.take_succ_eq_append_getElem h, rd_get l n h]
/-- A step of a path. -/
def st1 (c : UInt8) : Int := if c = 68 then -1 else 1
theorem st1_bd (c : UInt8) : -1 ≤ st1 c ∧ st1 c ≤ 1 := by unfold st1; split <;> omega
/-- The heights of a path. -/
def HL (s : ByteArray) : List Int := hs st1 0 s.data.toList
theorem HL_len (s : ByteArray) : (HL s).length = s.size + 1 := by unfold HL; rw [hs_len, bl]
theorem HL_bd (s : ByteArray) (h : s.size ≤ 40) (i : Nat) (hi : i ≤ s.size) : -40 ≤ rd (HL s) (i : Int) ∧ rd (HL s) (i : Int) ≤ 40 := by
  have := hs_bd st1 1 st1_bd s.data.toList 0 i (by rw [bl]; exact hi)
  unfold HL
  omega
theorem HL_succ (s : ByteArray) (i : Nat) (hi : i < s.size) : rd (HL s) ((i + 1 : Nat) : Int) = rd (HL s) (i : Int) + (if bt s (i : Int) = 68 then -1 else 1) := by
  obtain ⟨h', hb⟩ := btl s i hi
  unfold HL
  rw [hs_succ st1 _ 0 i h']
  unfold st1
  have e : (bt s (i : Int) = 68) ↔ s.data.toList[i] = 68 := by rw [hb]; exact u8_eq _ 68 (by omega)
  simp only [e]

/-- A step of a lead. -/
def stk (k : Int) (c : UInt8) : Int := if c = 68 then -k else 1
theorem stk_one : stk 1 = st1 := by funext c; rfl
theorem stk_bd (k : Int) (hk : 0 ≤ k ∧ k ≤ 40) (c : UInt8) : -40 ≤ stk k c ∧ stk k c ≤ 40 := by unfold stk; split <;> omega
/-- The leads. -/
def ML (k : Int) (s : ByteArray) : List Int := hs (stk k) 0 s.data.toList
theorem ML_one (s : ByteArray) : ML 1 s = HL s := by unfold ML HL; rw [stk_one]
theorem ML_len (k : Int) (s : ByteArray) : (ML k s).length = s.size + 1 := by unfold ML; rw [hs_len, bl]
theorem ML_zero (k : Int) (s : ByteArray) : rd (ML k s) 0 = 0 := hs_zero _ _ _
theorem ML_bd (k : Int) (hk : 0 ≤ k ∧ k ≤ 40) (s : ByteArray) (h : s.size ≤ 40) (i : Nat) (hi : i ≤ s.size) : -1600 ≤ rd (ML k s) (i : Int) ∧ rd (ML k s) (i : Int) ≤ 1600 := by
  have := hs_bd (stk k) 40 (stk_bd k hk) s.data.toList 0 i (by rw [bl]; exact hi)
  unfold ML
  omega
theorem ML_succ (k : Int) (s : ByteArray) (i : Nat) (hi : i < s.size) : rd (ML k s) ((i + 1 : Nat) : Int) = rd (ML k s) (i : Int) + (if bt s (i : Int) = 68 then -k else 1) := by
  obtain ⟨h', hb⟩ := btl s i hi
  unfold ML
  rw [hs_succ (stk k) _ 0 i h']
  unfold stk
  have e : (bt s (i : Int) = 68) ↔ s.data.toList[i] = 68 := by rw [hb]; exact u8_eq _ 68 (by omega)
  simp only [e]
theorem good_step (s : ByteArray) (g : GoodP s = true) (i : Nat) (hi : i < s.size) : bt s (i : Int) = 85 ↔ ¬ bt s (i : Int) = 68 := by
  obtain ⟨h', hb⟩ := btl s i hi
  have h := List.all_eq_true.1 (GoodP_iff g).2 _ (List.getElem_mem h')
  have e68 : (bt s (i : Int) = 68) ↔ s.data.toList[i] = 68 := by rw [hb]; exact u8_eq _ 68 (by omega)
  have e85 : (bt s (i : Int) = 85) ↔ s.data.toList[i] = 85 := by rw [hb]; exact u8_eq _ 85 (by omega)
  unfold stp at h
  simp only [Bool.or_eq_true, beq_iff_eq] at h
  rcases h with h | h
  · exact ⟨fun _ z => by have := e68.1 z; rw [h] at this; exact absurd this (by decide), fun _ => e85.2 h⟩
  · exact ⟨fun z => by have := e85.1 z; rw [h] at this; exact absurd this (by decide), fun z => absurd (e68.2 h) z⟩

theorem baMargin_ev (s : ByteArray) (g : GoodP s = true) (q : Int) (hq : 0 ≤ q ∧ q ≤ 40) : Ev (fun k => spec_baMargin.f k s q) (ML q s) := by
  have hn := (GoodP_iff g).1
  have key : ∀ (d i : Nat), i + d = s.size → Ev (fun k => spec_baMargin.l0 k s q ((ML q s).take (i + 1)) (rd (ML q s) (i : Int)) (i : Int)) (ML q s) := by
    intro d
    induction d with
    | zero =>
      intro i h
      refine Ev.s ?_
      have c : ¬ ((i : Int) < (s.size : Int)) := by omega
      simp only [spec_baMargin.l0, if_neg c]
      rw [List.take_of_length_le (by rw [ML_len]; omega)]
      exact Ev.now _
    | succ d ih =>
      intro i h
      refine Ev.s ?_
      have c1 : ((i : Int) < (s.size : Int)) := by omega
      have c2 : (0 : Int) ≤ (i : Int) := by omega
      have c4 : ((ML q s).take (i + 1)).length < 17592186044416 := by rw [List.length_take, ML_len]; omega
      have e := wsucc i s.size (by omega) (by omega)
      have hb := ML_bd q hq s hn i (by omega)
      have hs := ML_succ q s i (by omega)
      have ht := take_rd (ML q s) (i + 1) (by rw [ML_len]; omega)
      have hi := ih (i + 1) (by omega)
      have hg := good_step s g i (by omega)
      rw [ht] at hi
      by_cases b : bt s (i : Int) = 85
      · rw [if_neg (hg.1 b)] at hs
        have w : wrap64 (rd (ML q s) (i : Int) + 1) = rd (ML q s) ((i + 1 : Nat) : Int) := by rw [hs, w64 (by omega) (by omega)]
        simp only [spec_baMargin.l0, if_pos c1, if_pos c2, if_pos b, if_pos c4, e, w]
        exact hi
      · have b' : bt s (i : Int) = 68 := by
          by_cases z : bt s (i : Int) = 68
          · exact z
          · exact absurd (hg.2 z) b
        rw [if_pos b'] at hs
        have w : wrap64 (rd (ML q s) (i : Int) - q) = rd (ML q s) ((i + 1 : Nat) : Int) := by rw [hs, w64 (by omega) (by omega)]; omega
        simp only [spec_baMargin.l0, if_pos c1, if_pos c2, if_neg b, if_pos c4, e, w]
        exact hi
  have := key s.size 0 (by omega)
  rw [take_rd (ML q s) 0 (by rw [ML_len]; omega)] at this
  have h0 : rd (ML q s) ((0 : Nat) : Int) = 0 := ML_zero q s
  rw [h0] at this
  exact this

theorem leads_ev (s : ByteArray) (hn : s.size ≤ 40) (q : Int) (hq : 0 ≤ q ∧ q ≤ 40) : Ev (fun k => impl_leads.f k s q) (ML q s) := by
  have key : ∀ (d i : Nat), i + d = s.size → Ev (fun k => impl_leads.l0 k s q ((ML q s).take (i + 1)) (s.size : Int) (i : Int)) (ML q s) := by
    intro d
    induction d with
    | zero =>
      intro i h
      refine Ev.s ?_
      have c : ¬ ((i : Int) < (s.size : Int)) := by omega
      simp only [impl_leads.l0, if_neg c]
      rw [List.take_of_length_le (by rw [ML_len]; omega)]
      exact Ev.now _
    | succ d ih =>
      intro i h
      refine Ev.s ?_
      have c1 : ((i : Int) < (s.size : Int)) := by omega
      have c2 : (0 : Int) ≤ (i : Int) := by omega
      have hl : ((ML q s).take (i + 1)).length = i + 1 := by rw [List.length_take, ML_len]; omega
      have c3 : (i : Int) < (((ML q s).take (i + 1)).length : Int) := by omega
      have c4 : ((ML q s).take (i + 1)).length < 17592186044416 := by omega
      have e := wsucc i s.size (by omega) (by omega)
      have hb := ML_bd q hq s hn i (by omega)
      have hs := ML_succ q s i (by omega)
      have ht := take_rd (ML q s) (i + 1) (by rw [ML_len]; omega)
      have hr := rd_take (ML q s) (i + 1) i (by omega)
      have hi := ih (i + 1) (by omega)
      rw [ht] at hi
      by_cases b : bt s (i : Int) = 68
      · rw [if_pos b] at hs
        have w0 : wrap64 (-q) = -q := w64 (by omega) (by omega)
        have w : wrap64 (rd (ML q s) (i : Int) + -q) = rd (ML q s) ((i + 1 : Nat) : Int) := by rw [hs, w64 (by omega) (by omega)]
        simp only [impl_leads.l0, if_pos c1, if_pos c2, if_pos b, if_pos c3, if_pos c4, e, hr, w0, w]
        exact hi
      · rw [if_neg b] at hs
        have w : wrap64 (rd (ML q s) (i : Int) + 1) = rd (ML q s) ((i + 1 : Nat) : Int) := by rw [hs, w64 (by omega) (by omega)]
        simp only [impl_leads.l0, if_pos c1, if_pos c2, if_neg b, if_pos c3, if_pos c4, e, hr, w]
        exact hi
  have := key s.size 0 (by omega)
  rw [take_rd (ML q s) 0 (by rw [ML_len]; omega)] at this
  have h0 : rd (ML q s) ((0 : Nat) : Int) = 0 := ML_zero q s
  rw [h0] at this
  exact this
theorem ML_cons (q : Int) (s : ByteArray) : ML q s = 0 :: (ML q s).drop 1 := by
  have := drop_rd (ML q s) 0 (by rw [ML_len]; omega)
  rw [List.drop_zero] at this
  have h0 : rd (ML q s) ((0 : Nat) : Int) = 0 := ML_zero q s
  rw [h0] at this
  exact this

/-- A path, and a right k. -/
def AskB (s : ByteArray) (q : Int) : Bool := GoodP s && decide (1 ≤ q ∧ q ≤ 5)
theorem AskB_iff {s : ByteArray} {q : Int} (h : AskB s q = true) : GoodP s = true ∧ 1 ≤ q ∧ q ≤ 5 := by
  unfold AskB at h
  simpa using h
theorem baAsked_ev (s : ByteArray) (hn : s.size ≤ 1048576) (q : Int) : Ev (fun k => spec_baAsked.f k s q) (AskB s q) := by
  unfold spec_baAsked.f AskB
  refine Ev.bs (paGood_ev s hn) ?_
  by_cases g : GoodP s = true
  · simp only [g, if_true, l1In_eq, Option.bind_some, Bool.true_and]; exact Ev.now _
  · simp only [Bool.eq_false_iff.mpr g, Bool.false_and, Bool.false_eq_true, if_false]; exact Ev.now _
theorem isVote_eq (s : ByteArray) (hn : s.size ≤ 1048576) (q : Int) : impl_isVote.f s q = some (AskB s q) := by
  unfold impl_isVote.f AskB
  rw [isPath_eq s (by omega)]
  by_cases g : GoodP s = true
  · simp only [Option.bind_some, g, if_true, in_eq, Bool.true_and]
  · simp only [Option.bind_some, Bool.eq_false_iff.mpr g, Bool.false_and, Bool.false_eq_true, if_false]

/-- The first place that meets a test. -/
def fnd (p : Nat → Int → Bool) : Nat → List Int → Option Nat
  | _, [] => none
  | i, x :: r => if p i x then some i else fnd p (i + 1) r
theorem loopE {β : Type} {g : Nat → Int → Option β} {xs : List Int} {p : Nat → Int → Bool} {hit : Nat → β} {miss : β}
    (h1 : ∀ (k i : Nat), i < xs.length → p i (rd xs (i : Int)) = true → g (k + 1) (i : Int) = some (hit i))
    (h2 : ∀ (k i : Nat), i < xs.length → p i (rd xs (i : Int)) = false → g (k + 1) (i : Int) = g k ((i + 1 : Nat) : Int))
    (h3 : ∀ (k : Nat), g (k + 1) (xs.length : Int) = some miss) : Ev (fun k => g k 0) (((fnd p 0 xs).map hit).getD miss) := by
  have key : ∀ (d i : Nat), i + d = xs.length → Ev (fun k => g k (i : Int)) (((fnd p i (xs.drop i)).map hit).getD miss) := by
    intro d
    induction d with
    | zero =>
      intro i h
      obtain rfl : i = xs.length := by omega
      refine Ev.s ?_
      simp only [h3]
      rw [List.drop_of_length_le (Nat.le_refl _)]
      exact Ev.now _
    | succ d ih =>
      intro i h
      refine Ev.s ?_
      rw [drop_rd xs i (by omega)]
      cases c : p i (rd xs (i : Int)) with
      | true =>
        simp only [h1 _ i (by omega) c, fnd, c, if_true]
        exact Ev.now _
      | false =>
        simp only [h2 _ i (by omega) c, fnd, c, Bool.false_eq_true, if_false]
        exact ih (i + 1) (by omega)
  have := key xs.length 0 (by omega)
  rwa [List.drop_zero] at this
theorem fnd_congr (p q : Nat → Int → Bool) : ∀ (xs : List Int) (i : Nat), (∀ j x, i ≤ j → p j x = q j x) → fnd p i xs = fnd q i xs
  | [], _, _ => rfl
  | x :: r, i, h => by
    simp only [fnd, h i x (Nat.le_refl _)]
    rw [fnd_congr p q r (i + 1) (fun j x hj => h j x (by omega))]

/-- The test of the reference. -/
def tst (most : Int) (i : Nat) (x : Int) : Bool := decide (0 < i ∧ x ≤ most)
theorem baFirst_ev (s : ByteArray) (g : GoodP s = true) (q : Int) (hq : 0 ≤ q ∧ q ≤ 40) (m : Int) : Ev (fun k => spec_baFirst.f k s q m) (((fnd (tst m) 0 (ML q s)).map (fun i : Nat => (i : Int))).getD (-1)) := by
  unfold spec_baFirst.f
  refine Ev.bs (baMargin_ev s g q hq) ?_
  have hl := ML_len q s
  have hn := (GoodP_iff g).1
  generalize ML q s = xs at hl
  refine loopE (g := fun k i => spec_baFirst.l0 k m xs (xs.length : Int) i) ?_ ?_ ?_
  · intro k i hi hp
    unfold tst at hp
    have hp := of_decide_eq_true hp
    have c1 : ((i : Int) < (xs.length : Int)) := by omega
    have c2 : (0 : Int) ≤ (i : Int) := by omega
    have c3 : (i : Int) > 0 := by omega
    simp only [spec_baFirst.l0, if_pos c1, if_pos c2, if_pos c3, if_pos hp.2]
  · intro k i hi hp
    unfold tst at hp
    have hp := of_decide_eq_false hp
    have c1 : ((i : Int) < (xs.length : Int)) := by omega
    have c2 : (0 : Int) ≤ (i : Int) := by omega
    have e := wsucc i xs.length hi (by omega)
    by_cases c3 : (i : Int) > 0
    · have c4 : ¬ rd xs (i : Int) ≤ m := fun h => hp ⟨by omega, h⟩
      simp only [spec_baFirst.l0, if_pos c1, if_pos c2, if_pos c3, if_neg c4, e]
    · simp only [spec_baFirst.l0, if_pos c1, if_pos c2, if_neg c3, e]
  · intro k
    have c : ¬ ((xs.length : Int) < (xs.length : Int)) := by omega
    simp only [spec_baFirst.l0, if_neg c]
theorem fnd_neg (p : Nat → Int → Bool) (xs : List Int) : decide (((fnd p 0 xs).map (fun i : Nat => (i : Int))).getD (-1) < 0) = (fnd p 0 xs).isNone := by
  cases h : fnd p 0 xs with
  | none => rfl
  | some i => simp

theorem mx_eq (a b : Int) : mx a b = max a b := by unfold mx; split <;> omega
theorem mn_eq (a b : Int) : mn a b = min a b := by unfold mn; split <;> omega

theorem slicesMin_ev (xs : List Int) (hl : 1 ≤ xs.length ∧ xs.length ≤ 1000000) : Ev (fun k => slices_Min_int_int.f k xs) (foldI (fun a _ x => min a x) (rd xs 0) 1 (xs.drop 1)) := by
  unfold slices_Min_int_int.f
  have c1 : ¬ ((xs.length : Int) < 1) := by omega
  have c2 : (0 : Int) < (xs.length : Int) := by omega
  simp only [if_neg c1, if_pos c2]
  refine loopL (g := fun k a i => slices_Min_int_int.l0 k xs a i) (fin := fun a => a) (step := fun a _ x => min a x) (fun _ _ => True) ?_ ?_ ?_ (xs.length - 1) (rd xs 0) 1 (by omega) trivial
  · intro k a i _ hi
    have c1 : ((i : Int) < (xs.length : Int)) := by omega
    have c2 : (0 : Int) ≤ (i : Int) := by omega
    have e := wsucc i xs.length hi (by omega)
    simp only [slices_Min_int_int.l0, if_pos c1, if_pos c2, e, mn_eq]
  · intro a i _ hi; trivial
  · intro k a _
    have c : ¬ ((xs.length : Int) < (xs.length : Int)) := by omega
    simp only [slices_Min_int_int.l0, if_neg c]

theorem foldI_min_le : ∀ (xs : List Int) (a : Int) (i : Nat), foldI (fun a _ x => min a x) a i xs ≤ a
  | [], a, _ => by simp [foldI]
  | x :: r, a, i => by
    simp only [foldI]
    have := foldI_min_le r (min a x) (i + 1)
    omega

theorem fnd_min (p : Nat → Int → Bool) (hp : ∀ i x, 1 ≤ i → p i x = decide (x < 0)) : ∀ (xs : List Int) (a : Int) (i : Nat), 0 ≤ a → 1 ≤ i → (foldI (fun a _ x => min a x) a i xs ≥ 0 ↔ (fnd p i xs).isNone = true)
  | [], a, i, ha, hi => by simp [foldI, fnd, ha]
  | x :: r, a, i, ha, hi => by
    have e : foldI (fun a _ x => min a x) a i (x :: r) = foldI (fun a _ x => min a x) (min a x) (i + 1) r := rfl
    have e2 : fnd p i (x :: r) = if p i x then some i else fnd p (i + 1) r := rfl
    rw [e, e2, hp i x hi]
    by_cases h : x < 0
    · rw [decide_eq_true h, if_pos rfl]
      have := foldI_min_le r (min a x) (i + 1)
      constructor
      · intro z; omega
      · intro z; simp at z
    · rw [decide_eq_false h, if_neg (by simp)]
      exact fnd_min p hp r (min a x) (i + 1) (by omega) (by omega)

theorem neverB_ev (s : ByteArray) (hn : s.size ≤ 40) (q : Int) (hq : 0 ≤ q ∧ q ≤ 40) : Ev (fun k => impl_neverBehind.f k s q) ((fnd (tst (-1)) 0 (ML q s)).isNone) := by
  unfold impl_neverBehind.f
  refine Ev.bs (leads_ev s hn q hq) ?_
  refine Ev.bs (slicesMin_ev (ML q s) (by rw [ML_len]; omega)) (Ev.c ?_)
  have h0 : rd (ML q s) 0 = 0 := ML_zero q s
  have key := fnd_min (tst (-1)) (fun i x hi => by
    unfold tst
    rw [decide_eq_decide]
    omega) ((ML q s).drop 1) 0 1 (by omega) (by omega)
  have e : fnd (tst (-1)) 0 (ML q s) = fnd (tst (-1)) 1 ((ML q s).drop 1) := by
    conv => lhs; rw [ML_cons q s]
    rfl
  rw [h0, e]
  congr 1
  rw [Bool.eq_iff_iff, decide_eq_true_eq]
  exact key

theorem FnExactIsNeverBehind : laws_FnExactIsNeverBehind.Pure := by
  intro s q _ _
  refine Ev.rounds ?_
  unfold laws_FnExactIsNeverBehind.f
  by_cases h : (s.size : Int) > 1048576
  · simp only [if_pos h]; exact Ev.now _
  simp only [if_neg h]
  unfold spec_IsNeverBehind.f impl_IsNeverBehind.f
  rw [isVote_eq s (by omega) q]
  by_cases a : AskB s q = true
  · obtain ⟨g, hq⟩ := AskB_iff a
    have hn := (GoodP_iff g).1
    refine Ev.bs (a := ((fnd (tst (-1)) 0 (ML q s)).isNone, true)) (Ev.bs (baAsked_ev s (by omega) q) ?_) ?_
    · simp only [a, if_true]
      refine Ev.bs (baFirst_ev s g q (by omega) (-1)) ?_
      simp only [fnd_neg]; exact Ev.now _
    · simp only [Option.bind_some, a, if_true, Option.bind_assoc]
      exact Ev.bs (neverB_ev s hn q (by omega)) (Ev.c (by simp))
  · refine Ev.bs (a := (false, false)) (Ev.bs (baAsked_ev s (by omega) q) ?_) ?_
    · simp only [if_neg a]; exact Ev.now _
    · simp only [Option.bind_some, if_neg a]
      exact Ev.c (by simp)

end Go.Proofs.YtdidmodedgiijaaDoor.Pure
