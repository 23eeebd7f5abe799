/- The plain law of the statement FnExactTiesOf: what the program's function computes is what the reference's computes, for all arguments; no condition. -/
import Derived.Test.YtdidmodedgiijaaDoorPFnExactTiesOfx2
namespace Go.Proofs.YtdidmodedgiijaaDoor.Pure
open Go.RowKit Go.Proofs.YtdidmodedgiijaaDoor.PFnExactTiesOf Go.Proofs.YtdidmodedgiijaaDoorW.PrintWords Go.Proofs.YtdidmodedgiijaaDoorW.PrintLast Go.Proofs.YtdidmodedgiijaaDoorW.PrintMore

theorem Ev.s {α : Type} {g : Nat → Option α} {r : α} (h : Ev (fun k => g (k + 1)) r) : Ev g r := by
  obtain ⟨K, hK⟩ := h
  refine ⟨K + 1, fun k hk => ?_⟩
  obtain ⟨m, rfl⟩ : ∃ m, k = m + 1 := ⟨k - 1, by omega⟩
  exact hK m (by omega)
theorem Ev.c {α : Type} {o : Option α} {r : α} (h : o = some r) : Ev (fun _ => o) r := ⟨0, fun _ _ => h⟩
theorem Ev.u {α : Type} {g : Nat → Option α} {r r' : α} (h : Ev g r) (h' : Ev g r') : r = r' := by
  obtain ⟨K, hK⟩ := h
  obtain ⟨K', hK'⟩ := h'
  have a := hK (max K K') (by omega)
  have b := hK' (max K K') (by omega)
  rw [a] at b
  exact Option.some.inj b
theorem Ev.e {α : Type} {g : Nat → Option α} {r r' : α} (h : Ev g r) (e : r = r') : Ev g r' := e ▸ h
theorem Ev.bs {α β : Type} {g : Nat → Option α} {f : Nat → α → Option β} {a : α} {r : β} (h : Ev g a) (k : Ev (fun n => f n a) r) : Ev (fun n => Option.bind (g n) (f n)) r := Ev.bind h k
theorem w64 {n : Int} (h : -9223372036854775808 ≤ n) (h' : n ≤ 9223372036854775807) : wrap64 n = n := by unfold wrap64; omega
theorem rd_set (l : List Int) (i j : Int) (v : Int) (hi : 0 ≤ i) (hj : 0 ≤ j) (hl : i < (l.length : Int)) : rd (l.set i.toNat v) j = if i = j then v else rd l j := by
  unfold rd
  rw [List.getD_eq_getElem?_getD, List.getD_eq_getElem?_getD, List.getElem?_set]
  by_cases e : i = j
  · subst e; rw [if_pos rfl, if_pos rfl, if_pos (by omega)]; rfl
  · rw [if_neg (by omega), if_neg e]

theorem in_eq (a b c : Int) : impl_in.f a b c = some (decide (b ≤ a ∧ a ≤ c)) := by
  unfold impl_in.f
  by_cases h : b ≤ a
  · rw [if_pos h]; simp [h]
  · rw [if_neg h]; simp [h]

theorem l1In_eq (a b c : Int) : spec_l1In.f a b c = some (decide (b ≤ a ∧ a ≤ c)) := by
  unfold spec_l1In.f
  by_cases h : a ≥ b
  · rw [if_pos h]; simp [h]
  · rw [if_neg h]; simp [h]

theorem drop_rd (l : List Int) (i : Nat) (h : i < l.length) : l.drop i = rd l (i : Int) :: l.drop (i + 1) := by
  rw [List.drop_eq_getElem_cons h]
  unfold rd
  rw [Int.toNat_natCast, List.getD_eq_getElem?_getD, List.getElem?_eq_getElem h]
  rfl
theorem rd_get (l : List Int) (i : Nat) (h : i < l.length) : rd l (i : Int) = l[i] := by
  unfold rd
  rw [Int.toNat_natCast, List.getD_eq_getElem?_getD, List.getElem?_eq_getElem h]
  rfl
theorem wsucc (i n : Nat) (h : i < n) (hn : n ≤ 9223372036854775807) : wrap64 ((i : Int) + 1) = ((i + 1 : Nat) : Int) := by
  rw [w64 (by omega) (by omega)]; omega
theorem rd_cons_succ (x : Int) (l : List Int) (i : Nat) : rd (x :: l) ((i + 1 : Nat) : Int) = rd l (i : Int) := by
  unfold rd
  simp only [Int.toNat_natCast, List.getD_cons_succ]
theorem rd_cons_zero (x : Int) (l : List Int) : rd (x :: l) 0 = x := rfl

/-- A loop over a list, with its places. -/
def foldI {α : Type} (step : α → Nat → Int → α) : α → Nat → List Int → α
  | a, _, [] => a
  | a, i, x :: r => foldI step (step a i x) (i + 1) r
theorem loopL {α β : Type} {g : Nat → α → Int → Option β} {xs : List Int} {step : α → Nat → Int → α} {fin : α → β} (Inv : α → Nat → Prop)
    (hs : ∀ (k : Nat) (a : α) (i : Nat), Inv a i → i < xs.length → g (k + 1) a (i : Int) = g k (step a i (rd xs (i : Int))) ((i + 1 : Nat) : Int))
    (hi : ∀ (a : α) (i : Nat), Inv a i → i < xs.length → Inv (step a i (rd xs (i : Int))) (i + 1))
    (hf : ∀ (k : Nat) (a : α), Inv a xs.length → g (k + 1) a (xs.length : Int) = some (fin a)) :
    ∀ (d : Nat) (a : α) (i : Nat), i + d = xs.length → Inv a i → Ev (fun k => g k a (i : Int)) (fin (foldI step a i (xs.drop i))) := by
  intro d
  induction d with
  | zero =>
    intro a i h h0
    obtain rfl : i = xs.length := by omega
    refine Ev.s ?_
    simp only [hf _ a h0]
    rw [List.drop_of_length_le (Nat.le_refl _)]
    exact Ev.now _
  | succ d ih =>
    intro a i h h0
    refine Ev.s ?_
    simp only [hs _ a i h0 (by omega)]
    rw [drop_rd xs i (by omega)]
    exact ih _ (i + 1) (by omega) (hi a i h0 (by omega))
theorem loop0 {α β : Type} {g : Nat → α → Int → Option β} {xs : List Int} {step : α → Nat → Int → α} {fin : α → β} (Inv : α → Nat → Prop)
    (hs : ∀ (k : Nat) (a : α) (i : Nat), Inv a i → i < xs.length → g (k + 1) a (i : Int) = g k (step a i (rd xs (i : Int))) ((i + 1 : Nat) : Int))
    (hi : ∀ (a : α) (i : Nat), Inv a i → i < xs.length → Inv (step a i (rd xs (i : Int))) (i + 1))
    (hf : ∀ (k : Nat) (a : α), Inv a xs.length → g (k + 1) a (xs.length : Int) = some (fin a)) (a : α) (h0 : Inv a 0) :
    Ev (fun k => g k a 0) (fin (foldI step a 0 xs)) := by
  have := loopL Inv hs hi hf xs.length a 0 (by omega) h0
  rwa [List.drop_zero] at this

theorem bl (s : ByteArray) : s.data.toList.length = s.size := by rw [Array.length_toList]; rfl
theorem btl (s : ByteArray) (i : Nat) (h : i < s.size) : ∃ hi : i < s.data.toList.length, bt s (i : Int) = ((s.data.toList[i]'hi).toNat : Int) := by
  refine ⟨by rw [bl]; exact h, ?_⟩
  unfold bt
  rw [dif_pos (by simpa using h)]
  rfl
theorem u8_eq (c : UInt8) (n : Nat) (hn : n < 256) : ((c.toNat : Int) = (n : Int)) ↔ c = UInt8.ofNat n := by
  have e : (UInt8.ofNat n).toNat = n := by rw [UInt8.toNat_ofNat', Nat.mod_eq_of_lt hn]
  constructor
  · intro h
    have : c.toNat = n := by omega
    exact UInt8.toNat_inj.1 (by rw [e]; exact this)
  · intro h
    subst h
    rw [e]
theorem bt_eq (s : ByteArray) (i : Nat) (h : i < s.size) (n : Nat) (hn : n < 256) : bt s (i : Int) = (n : Int) ↔ s.data.toList[i]? = some (UInt8.ofNat n) := by
  obtain ⟨h', e⟩ := btl s i h
  rw [e, u8_eq _ n hn, List.getElem?_eq_getElem h']
  simp
theorem toList_eq (s : ByteArray) : s.toList = s.data.toList := by
  exact ByteArray.toList_eq s

/-- Is this byte a step? -/
def stp (c : UInt8) : Bool := c == 85 || c == 68
/-- Is this text a path? -/
def GoodP (s : ByteArray) : Bool := decide (s.size ≤ 40) && s.data.toList.all stp
theorem GoodP_iff {s : ByteArray} (h : GoodP s = true) : s.size ≤ 40 ∧ s.data.toList.all stp = true := by
  unfold GoodP at h
  simpa using h
theorem paGood_l0 (s : ByteArray) (hn : s.size ≤ 1048576) (d : Nat) : ∀ (i : Nat), i + d = s.size → Ev (fun k => spec_paGood.l0 k s (i : Int)) ((s.data.toList.drop i).all stp) := by
  induction d with
  | zero =>
    intro i h
    refine Ev.s ?_
    have c : ¬ ((i : Int) < (s.size : Int)) := by omega
    simp only [spec_paGood.l0, if_neg c]
    rw [List.drop_of_length_le (by rw [bl]; omega)]
    exact Ev.now _
  | succ d ih =>
    intro i h
    refine Ev.s ?_
    have c1 : ((i : Int) < (s.size : Int)) := by omega
    have c2 : (0 : Int) ≤ (i : Int) := by omega
    have e := wsucc i s.size (by omega) (by omega)
    obtain ⟨h', hb⟩ := btl s i (by omega)
    rw [List.drop_eq_getElem_cons h', List.all_cons]
    have h85 : bt s (i : Int) = 85 ↔ s.data.toList[i] = 85 := by rw [hb]; exact u8_eq _ 85 (by omega)
    have h68 : bt s (i : Int) = 68 ↔ s.data.toList[i] = 68 := by rw [hb]; exact u8_eq _ 68 (by omega)
    simp only [spec_paGood.l0, if_pos c1, if_pos c2, e]
    by_cases a : bt s (i : Int) = 85
    · simp only [if_pos a]
      have : stp s.data.toList[i] = true := by rw [h85.1 a]; rfl
      rw [this, Bool.true_and]
      exact ih (i + 1) (by omega)
    · simp only [if_neg a]
      by_cases b : bt s (i : Int) = 68
      · simp only [if_pos b]
        have : stp s.data.toList[i] = true := by rw [h68.1 b]; rfl
        rw [this, Bool.true_and]
        exact ih (i + 1) (by omega)
      · simp only [if_neg b]
        have : stp s.data.toList[i] = false := by
          unfold stp
          rw [h85] at a
          rw [h68] at b
          rw [beq_eq_false_iff_ne.2 a, beq_eq_false_iff_ne.2 b]; rfl
        rw [this, Bool.false_and]
        exact Ev.now _
theorem paGood_ev (s : ByteArray) (hn : s.size ≤ 1048576) : Ev (fun k => spec_paGood.f k s) (GoodP s) := by
  unfold spec_paGood.f GoodP
  by_cases h : (s.size : Int) > 40
  · simp only [if_pos h]
    rw [decide_eq_false (by omega), Bool.false_and]
    exact Ev.now _
  · simp only [if_neg h]
    rw [decide_eq_true (by omega), Bool.true_and]
    exact paGood_l0 s hn s.size 0 (by omega)
theorem dropW_nil (p : UInt8 → Bool) : ∀ l : List UInt8, l.dropWhile p = [] ↔ l.all p = true
  | [] => by simp
  | c :: r => by
    by_cases h : p c = true
    · simp [h, dropW_nil p r]
    · simp [h]
theorem all_dropW (p : UInt8 → Bool) : ∀ l : List UInt8, (l.dropWhile p).all p = l.all p
  | [] => rfl
  | c :: r => by
    by_cases h : p c = true
    · simp only [List.dropWhile_cons, h, if_true, List.all_cons, Bool.true_and]; exact all_dropW p r
    · simp only [List.dropWhile_cons, h, Bool.false_eq_true, if_false]
theorem trim_nil (l : List UInt8) : Lib.trimS l [85, 68] = [] ↔ l.all stp = true := by
  have e : (fun c : UInt8 => [85, 68].contains c) = stp := by
    funext c
    unfold stp
    simp only [List.contains_cons, List.contains_nil, Bool.or_false]
  unfold Lib.trimS Lib.trimLeftS Lib.trimRightS
  rw [e, dropW_nil, List.all_reverse, all_dropW, List.all_reverse]
theorem isPath_eq (s : ByteArray) (hn : s.size ≤ 1048576000) : impl_IsPath.f s = some (GoodP s) := by
  unfold impl_IsPath.f GoodP
  by_cases h : (s.size : Int) ≤ 40
  · rw [if_pos h, decide_eq_true (by omega), Bool.true_and]
    unfold strings_Trim.f
    rw [if_pos ⟨by omega, by decide, by decide⟩]
    simp only [Option.bind_some, toList_eq]
    congr 1
    rw [Bool.eq_iff_iff, beq_iff_eq]
    exact trim_nil _
  · rw [if_neg h, decide_eq_false (by omega), Bool.false_and]

/-- The heights of a text from a height on. -/
def hs (st : UInt8 → Int) : Int → List UInt8 → List Int
  | h, [] => [h]
  | h, c :: r => h :: hs st (h + st c) r
theorem hs_len (st : UInt8 → Int) : ∀ (l : List UInt8) (h : Int), (hs st h l).length = l.length + 1
  | [], h => rfl
  | c :: r, h => by simp only [hs, List.length_cons, hs_len st r]
theorem hs_zero (st : UInt8 → Int) (l : List UInt8) (h : Int) : rd (hs st h l) 0 = h := by cases l <;> rfl
theorem hs_succ (st : UInt8 → Int) : ∀ (l : List UInt8) (h : Int) (i : Nat) (hi : i < l.length), rd (hs st h l) ((i + 1 : Nat) : Int) = rd (hs st h l) (i : Int) + st l[i]
  | c :: r, h, 0, hi => by
    simp only [hs]
    rw [rd_cons_succ]
    exact hs_zero st r _
  | c :: r, h, i + 1, hi => by
    simp only [hs, List.getElem_cons_succ]
    rw [rd_cons_succ, rd_cons_succ]
    exact hs_succ st r _ i (by simpa using hi)
theorem hs_bd (st : UInt8 → Int) (B : Int) (hB : ∀ c, -B ≤ st c ∧ st c ≤ B) (l : List UInt8) (h : Int) : ∀ (i : Nat), i ≤ l.length → h - B * i ≤ rd (hs st h l) (i : Int) ∧ rd (hs st h l) (i : Int) ≤ h + B * i
  | 0, _ => by
    have := hs_zero st l h
    simp only [Int.natCast_zero, this]; simp
  | i + 1, hi => by
    have ih := hs_bd st B hB l h i (by omega)
    rw [hs_succ st l h i (by omega)]
    have := hB l[i]
    have e : B * ((i + 1 : Nat) : Int) = B * (i : Int) + B := by rw [Int.natCast_add, Int.mul_add]; simp
    rw [e]
    omega
theorem rd_take (l : List Int) (n i : Nat) (h : i < n) : rd (l.take n) (i : Int) = rd l (i : Int) := by
  unfold rd
  rw [Int.toNat_natCast, List.getD_eq_getElem?_getD, List.getD_eq_getElem?_getD, List.getElem?_take_of_lt h]
theorem take_rd (l : List Int) (n : Nat) (h : n < l.length) : l.take (n + 1) = l.take n ++ [rd l (n : Int)] := by
  rw [List.take_succ_eq_append_getElem h, rd_get l n h]
/-- A step of a path. -/
def st1 (c : UInt8) : Int := if c = 68 then -1 else 1
theorem st1_bd (c : UInt8) : -1 ≤ st1 c ∧ st1 c ≤ 1 := by unfold st1; split <;> omega
/-- The heights of a path. -/
def HL (s : ByteArray) : List Int := hs st1 0 s.data.toList
theorem HL_len (s : ByteArray) : (HL s).length = s.size + 1 := by unfold HL; rw [hs_len, bl]
theorem HL_bd (s : ByteArray) (h : s.size ≤ 40) (i : Nat) (hi : i ≤ s.size) : -40 ≤ rd (HL s) (i : Int) ∧ rd (HL s) (i : Int) ≤ 40 := by
  have := hs_bd st1 1 st1_bd s.data.toList 0 i (by rw [bl]; exact hi)
  unfold HL
  omega
theorem HL_succ (s : ByteArray) (i : Nat) (hi : i < s.size) : rd (HL s) ((i + 1 : Nat) : Int) = rd (HL s) (i : Int) + (if bt s (i : Int) = 68 then -1 else 1) := by
  obtain ⟨h', hb⟩ := btl s i hi
  unfold HL
  rw [hs_succ st1 _ 0 i h']
  unfold st1
  have e : (bt s (i : Int) = 68) ↔ s.data.toList[i] = 68 := by rw [hb]; exact u8_eq _ 68 (by omega)
  simp only [e]

/-- A step of a lead. -/
def stk (k : Int) (c : UInt8) : Int := if c = 68 then -k else 1
theorem stk_one : stk 1 = st1 := by funext c; rfl
theorem stk_bd (k : Int) (hk : 0 ≤ k ∧ k ≤ 40) (c : UInt8) : -40 ≤ stk k c ∧ stk k c ≤ 40 := by unfold stk; split <;> omega
/-- The leads. -/
def ML (k : Int) (s : ByteArray) : List Int := hs (stk k) 0 s.data.toList
theorem ML_one (s : ByteArray) : ML 1 s = HL s := by unfold ML HL; rw [stk_one]
theorem ML_len (k : Int) (s : ByteArray) : (ML k s).length = s.size + 1 := by unfold ML; rw [hs_len, bl]
theorem ML_zero (k : Int) (s : ByteArray) : rd (ML k s) 0 = 0 := hs_zero _ _ _
theorem ML_bd (k : Int) (hk : 0 ≤ k ∧ k ≤ 40) (s : ByteArray) (h : s.size ≤ 40) (i : Nat) (hi : i ≤ s.size) : -1600 ≤ rd (ML k s) (i : Int) ∧ rd (ML k s) (i : Int) ≤ 1600 := by
  have := hs_bd (stk k) 40 (stk_bd k hk) s.data.toList 0 i (by rw [bl]; exact hi)
  unfold ML
  omega
theorem ML_succ (k : Int) (s : ByteArray) (i : Nat) (hi : i < s.size) : rd (ML k s) ((i + 1 : Nat) : Int) = rd (ML k s) (i : Int) + (if bt s (i : Int) = 68 then -k else 1) := by
  obtain ⟨h', hb⟩ := btl s i hi
  unfold ML
  rw [hs_succ (stk k) _ 0 i h']
  unfold stk
  have e : (bt s (i : Int) = 68) ↔ s.data.toList[i] = 68 := by rw [hb]; exact u8_eq _ 68 (by omega)
  simp only [e]
theorem good_step (s : ByteArray) (g : GoodP s = true) (i : Nat) (hi : i < s.size) : bt s (i : Int) = 85 ↔ ¬ bt s (i : Int) = 68 := by
  obtain ⟨h', hb⟩ := btl s i hi
  have h := List.all_eq_true.1 (GoodP_iff g).2 _ (List.getElem_mem h')
  have e68 : (bt s (i : Int) = 68) ↔ s.data.toList[i] = 68 := by rw [hb]; exact u8_eq _ 68 (by omega)
  have e85 : (bt s (i : Int) = 85) ↔ s.data.toList[i] = 85 := by rw [hb]; exact u8_eq _ 85 (by omega)
  unfold stp at h
  simp only [Bool.or_eq_true, beq_iff_eq] at h
  rcases h with h | h
  · exact ⟨fun _ z => by have := e68.1 z; rw [h] at this; exact absurd this (by decide), fun _ => e85.2 h⟩
  · exact ⟨fun z => by have := e85.1 z; rw [h] at this; exact absurd this (by decide), fun z => absurd (e68.2 h) z⟩

theorem baMargin_ev (s : ByteArray) (g : GoodP s = true) (q : Int) (hq : 0 ≤ q ∧ q ≤ 40) : Ev (fun k => spec_baMargin.f k s q) (ML q s) := by
  have hn := (GoodP_iff g).1
  have key : ∀ (d i : Nat), i + d = s.size → Ev (fun k => spec_baMargin.l0 k s q ((ML q s).take (i + 1)) (rd (ML q s) (i : Int)) (i : Int)) (ML q s) := by
    intro d
    induction d with
    | zero =>
      intro i h
      refine Ev.s ?_
      have c : ¬ ((i : Int) < (s.size : Int)) := by omega
      simp only [spec_baMargin.l0, if_neg c]
      rw [List.take_of_length_le (by rw [ML_len]; omega)]
      exact Ev.now _
    | succ d ih =>
      intro i h
      refine Ev.s ?_
      have c1 : ((i : Int) < (s.size : Int)) := by omega
      have c2 : (0 : Int) ≤ (i : Int) := by omega
      have c4 : ((ML q s).take (i + 1)).length < 17592186044416 := by rw [List.length_take, ML_len]; omega
      have e := wsucc i s.size (by omega) (by omega)
      have hb := ML_bd q hq s hn i (by omega)
      have hs := ML_succ q s i (by omega)
      have ht := take_rd (ML q s) (i + 1) (by rw [ML_len]; omega)
      have hi := ih (i + 1) (by omega)
      have hg := good_step s g i (by omega)
      rw [ht] at hi
      by_cases b : bt s (i : Int) = 85
      · rw [if_neg (hg.1 b)] at hs
        have w : wrap64 (rd (ML q s) (i : Int) + 1) = rd (ML q s) ((i + 1 : Nat) : Int) := by rw [hs, w64 (by omega) (by omega)]
        simp only [spec_baMargin.l0, if_pos c1, if_pos c2, if_pos b, if_pos c4, e, w]
        exact hi
      · have b' : bt s (i : Int) = 68 := by
          by_cases z : bt s (i : Int) = 68
          · exact z
          · exact absurd (hg.2 z) b
        rw [if_pos b'] at hs
        have w : wrap64 (rd (ML q s) (i : Int) - q) = rd (ML q s) ((i + 1 : Nat) : Int) := by rw [hs, w64 (by omega) (by omega)]; omega
        simp only [spec_baMargin.l0, if_pos c1, if_pos c2, if_neg b, if_pos c4, e, w]
        exact hi
  have := key s.size 0 (by omega)
  rw [take_rd (ML q s) 0 (by rw [ML_len]; omega)] at this
  have h0 : rd (ML q s) ((0 : Nat) : Int) = 0 := ML_zero q s
  rw [h0] at this
  exact this

theorem leads_ev (s : ByteArray) (hn : s.size ≤ 40) (q : Int) (hq : 0 ≤ q ∧ q ≤ 40) : Ev (fun k => impl_leads.f k s q) (ML q s) := by
  have key : ∀ (d i : Nat), i + d = s.size → Ev (fun k => impl_leads.l0 k s q ((ML q s).take (i + 1)) (s.size : Int) (i : Int)) (ML q s) := by
    intro d
    induction d with
    | zero =>
      intro i h
      refine Ev.s ?_
      have c : ¬ ((i : Int) < (s.size : Int)) := by omega
      simp only [impl_leads.l0, if_neg c]
      rw [List.take_of_length_le (by rw [ML_len]; omega)]
      exact Ev.now _
    | succ d ih =>
      intro i h
      refine Ev.s ?_
      have c1 : ((i : Int) < (s.size : Int)) := by omega
      have c2 : (0 : Int) ≤ (i : Int) := by omega
      have hl : ((ML q s).take (i + 1)).length = i + 1 := by rw [List.length_take, ML_len]; omega
      have c3 : (i : Int) < (((ML q s).take (i + 1)).length : Int) := by omega
      have c4 : ((ML q s).take (i + 1)).length < 17592186044416 := by omega
      have e := wsucc i s.size (by omega) (by omega)
      have hb := ML_bd q hq s hn i (by omega)
      have hs := ML_succ q s i (by omega)
      have ht := take_rd (ML q s) (i + 1) (by rw [ML_len]; omega)
      have hr := rd_take (ML q s) (i + 1) i (by omega)
      have hi := ih (i + 1) (by omega)
      rw [ht] at hi
      by_cases b : bt s (i : Int) = 68
      · rw [if_pos b] at hs
        have w0 : wrap64 (-q) = -q := w64 (by omega) (by omega)
        have w : wrap64 (rd (ML q s) (i : Int) + -q) = rd (ML q s) ((i + 1 : Nat) : Int) := by rw [hs, w64 (by omega) (by omega)]
        simp only [impl_leads.l0, if_pos c1, if_pos c2, if_pos b, if_pos c3, if_pos c4, e, hr, w0, w]
        exact hi
      · rw [if_neg b] at hs
        have w : wrap64 (rd (ML q s) (i : Int) + 1) = rd (ML q s) ((i + 1 : Nat) : Int) := by rw [hs, w64 (by omega) (by omega)]
        simp only [impl_leads.l0, if_pos c1, if_pos c2, if_neg b, if_pos c3, if_pos c4, e, hr, w]
        exact hi
  have := key s.size 0 (by omega)
  rw [take_rd (ML q s) 0 (by rw [ML_len]; omega)] at this
  have h0 : rd (ML q s) ((0 : Nat) : Int) = 0 := ML_zero q s
  rw [h0] at this
  exact this
theorem ML_cons (q : Int) (s : ByteArray) : ML q s = 0 :: (ML q s).drop 1 := by
  have := drop_rd (ML q s) 0 (by rw [ML_len]; omega)
  rw [List.drop_zero] at this
  have h0 : rd (ML q s) ((0 : Nat) : Int) = 0 := ML_zero q s
  rw [h0] at this
  exact this

/-- A path, and a right k. -/
def AskB (s : ByteArray) (q : Int) : Bool := GoodP s && decide (1 ≤ q ∧ q ≤ 5)
theorem AskB_iff {s : ByteArray} {q : Int} (h : AskB s q = true) : GoodP s = true ∧ 1 ≤ q ∧ q ≤ 5 := by
  unfold AskB at h
  simpa using h
theorem baAsked_ev (s : ByteArray) (hn : s.size ≤ 1048576) (q : Int) : Ev (fun k => spec_baAsked.f k s q) (AskB s q) := by
  unfold spec_baAsked.f AskB
  refine Ev.bs (paGood_ev s hn) ?_
  by_cases g : GoodP s = true
  · simp only [g, if_true, l1In_eq, Option.bind_some, Bool.true_and]; exact Ev.now _
  · simp only [Bool.eq_false_iff.mpr g, Bool.false_and, Bool.false_eq_true, if_false]; exact Ev.now _
theorem isVote_eq (s : ByteArray) (hn : s.size ≤ 1048576) (q : Int) : impl_isVote.f s q = some (AskB s q) := by
  unfold impl_isVote.f AskB
  rw [isPath_eq s (by omega)]
  by_cases g : GoodP s = true
  · simp only [Option.bind_some, g, if_true, in_eq, Bool.true_and]
  · simp only [Option.bind_some, Bool.eq_false_iff.mpr g, Bool.false_and, Bool.false_eq_true, if_false]

theorem eqIntS_l0 (l m : List Int) (hl : l.length = m.length) (hn : l.length ≤ 35184372088832) (d : Nat) : ∀ (i : Nat), i + d = l.length →
    Ev (fun k => laws_eqIntS.l0 k l m (i : Int)) (decide (l.drop i = m.drop i)) := by
  induction d with
  | zero =>
    intro i hi
    refine Ev.s ?_
    have c : ¬ ((i : Int) < (l.length : Int)) := by omega
    simp only [laws_eqIntS.l0, if_neg c]
    rw [List.drop_of_length_le (by omega), List.drop_of_length_le (by omega)]
    exact Ev.now _
  | succ d ih =>
    intro i hi
    refine Ev.s ?_
    have c1 : ((i : Int) < (l.length : Int)) := by omega
    have c2 : (0 : Int) ≤ (i : Int) := by omega
    have c3 : ((i : Int) < (m.length : Int)) := by omega
    have e := wsucc i l.length (by omega) (by omega)
    simp only [laws_eqIntS.l0, if_pos c1, if_pos c2, if_pos c3, e]
    rw [drop_rd l i (by omega), drop_rd m i (by omega)]
    by_cases h : rd l (i : Int) = rd m (i : Int)
    · simp only [if_pos h]
      refine Ev.e (ih (i + 1) (by omega)) ?_
      simp [h]
    · simp only [if_neg h]
      have : (decide (rd l (i : Int) :: l.drop (i + 1) = rd m (i : Int) :: m.drop (i + 1))) = false := by
        apply decide_eq_false; intro h'; exact h (List.cons.inj h').1
      rw [this]; exact Ev.now _
theorem eqIntS_ev (l m : List Int) (hn : l.length ≤ 35184372088832) : Ev (fun k => laws_eqIntS.f k l m) (decide (l = m)) := by
  unfold laws_eqIntS.f
  by_cases h : l.length = m.length
  · have c : ((l.length : Int) = (m.length : Int)) := by omega
    simp only [if_pos c]
    exact eqIntS_l0 l m h hn l.length 0 (by omega)
  · have c : ¬ ((l.length : Int) = (m.length : Int)) := by omega
    simp only [if_neg c]
    have : decide (l = m) = false := by apply decide_eq_false; intro e; rw [e] at h; exact h rfl
    rw [this]; exact Ev.now _

/-- k, k + 1, .. -/
def upL : Int → Nat → List Int
  | _, 0 => []
  | k, n + 1 => k :: upL (k + 1) n
theorem upL_len : ∀ (n : Nat) (k : Int), (upL k n).length = n
  | 0, _ => rfl
  | n + 1, k => by simp only [upL, List.length_cons, upL_len n]
theorem upL_snoc : ∀ (n : Nat) (k : Int), upL k (n + 1) = upL k n ++ [k + n]
  | 0, k => by simp [upL]
  | n + 1, k => by
    rw [upL, upL_snoc n (k + 1), upL, List.cons_append, Int.natCast_succ, show k + 1 + (n : Int) = k + ((n : Int) + 1) from by omega]
theorem upL_rd : ∀ (n i : Nat) (k : Int), i < n → rd (upL k n) (i : Int) = k + i
  | n + 1, 0, k, _ => by simp [upL, rd_cons_zero]
  | n + 1, i + 1, k, h => by
    rw [upL, rd_cons_succ, upL_rd n i (k + 1) (by omega), Int.natCast_succ]; omega
theorem markIntS_ev (l : List Int) (hl : l.length ≤ 1000000) : Ev (fun k => laws_markIntS.f k l 1) (1 + (l.length : Int), upL 1 l.length) := by
  have key : ∀ (d i : Nat) (m : List Int), i + d = l.length → m.length = l.length → m.take i = upL 1 i → Ev (fun k => laws_markIntS.l0 k m (1 + (i : Int)) (i : Int)) (1 + (l.length : Int), upL 1 l.length) := by
    intro d
    induction d with
    | zero =>
      intro i m hi hm ht
      refine Ev.s ?_
      have c : ¬ ((i : Int) < (m.length : Int)) := by omega
      simp only [laws_markIntS.l0, if_neg c]
      rw [List.take_of_length_le (by omega)] at ht
      rw [ht, show i = l.length from by omega]
      exact Ev.now _
    | succ d ih =>
      intro i m hi hm ht
      refine Ev.s ?_
      have c1 : ((i : Int) < (m.length : Int)) := by omega
      have c2 : (0 : Int) ≤ (i : Int) := by omega
      have e := wsucc i l.length (by omega) (by omega)
      have e2 : wrap64 (1 + (i : Int) + 1) = 1 + ((i + 1 : Nat) : Int) := by rw [w64 (by omega) (by omega)]; omega
      simp only [laws_markIntS.l0, if_pos c1, if_pos c2, e, e2, Int.toNat_natCast]
      refine ih (i + 1) _ (by omega) (by simpa using hm) ?_
      rw [List.take_succ_eq_append_getElem (by simp; omega), List.take_set_of_le (by omega), ht, upL_snoc]
      simp
  have := key l.length 0 l (by omega) rfl rfl
  exact this
theorem heldIntS_ev (n : Nat) (hn : n ≤ 1000000) : Ev (fun k => laws_heldIntS.f k (upL 1 n) 1) (1 + (n : Int)) := by
  have key : ∀ (d i : Nat), i + d = n → Ev (fun k => laws_heldIntS.l0 k (upL 1 n) (1 + (i : Int)) (i : Int)) (1 + (n : Int)) := by
    intro d
    induction d with
    | zero =>
      intro i hi
      refine Ev.s ?_
      have c : ¬ ((i : Int) < ((upL 1 n).length : Int)) := by rw [upL_len]; omega
      simp only [laws_heldIntS.l0, if_neg c]
      rw [show i = n from by omega]
      exact Ev.now _
    | succ d ih =>
      intro i hi
      refine Ev.s ?_
      have c1 : ((i : Int) < ((upL 1 n).length : Int)) := by rw [upL_len]; omega
      have c2 : (0 : Int) ≤ (i : Int) := by omega
      have c3 := upL_rd n i 1 (by omega)
      have e := wsucc i n (by omega) (by omega)
      have e2 : wrap64 (1 + (i : Int) + 1) = 1 + ((i + 1 : Nat) : Int) := by rw [w64 (by omega) (by omega)]; omega
      simp only [laws_heldIntS.l0, if_pos c1, if_pos c2, c3, if_true, e, e2]
      exact ih (i + 1) (by omega)
  have := key n 0 (by omega)
  exact this

theorem TiesOf_frame (s : ByteArray) (q : Int) (v : List Int) (b : Bool) (hv : v.length ≤ 1000000) (e1 : Ev (fun k => spec_TiesOf.f k s q) (v, b)) (e2 : Ev (fun k => impl_TiesOf.f k s q) (v, b)) :
    Ev (fun k => (spec_TiesOf.f k s q).bind fun bt1 => ((impl_TiesOf.f k s q).bind fun bt2 => ((laws_eqIntS.f k bt2.1 bt1.1).bind fun t => (if t = true then (laws_FnExactTiesOf.j0 k s q bt1.1 bt1.2 bt2.1 (bt2.2 != bt1.2)) else (laws_FnExactTiesOf.j0 k s q bt1.1 bt1.2 bt2.1 true))))) true := by
  have hh := heldIntS_ev v.length hv
  refine Ev.bs e1 (Ev.bs e2 (Ev.bs (eqIntS_ev v v (by omega)) ?_))
  simp only [decide_true, if_true, bne_self_eq_false]
  refine Ev.s ?_
  simp only [laws_FnExactTiesOf.j0, Bool.false_eq_true, if_false]
  refine Ev.bs (markIntS_ev v hv) (Ev.bs hh ?_)
  have c1 : ¬ (1 + (v.length : Int) < 0) := by omega
  simp only [if_neg c1, if_true]
  refine Ev.bs e2 (Ev.bs (eqIntS_ev v v (by omega)) ?_)
  simp only [decide_true, if_true, bne_self_eq_false]
  refine Ev.s ?_
  simp only [laws_FnExactTiesOf.j1, Bool.false_eq_true, if_false]
  refine Ev.bs hh ?_
  simp only [if_neg c1, if_true]
  exact Ev.now _

/-- The places with a zero. -/
def tiS (a : List Int) (i : Nat) (x : Int) : List Int := if x = 0 then a ++ [(i : Int)] else a
theorem ti_len : ∀ (xs : List Int) (a : List Int) (i : Nat), (foldI tiS a i xs).length ≤ a.length + xs.length
  | [], a, _ => by simp [foldI]
  | x :: r, a, i => by
    simp only [foldI, List.length_cons]
    have := ti_len r (tiS a i x) (i + 1)
    have h2 : (tiS a i x).length ≤ a.length + 1 := by unfold tiS; split <;> simp
    omega
theorem implTies_ev (xs : List Int) (hl : xs.length ≤ 41) : Ev (fun k => impl_TiesOf.l0 k [] xs (xs.length : Int) 0) (foldI tiS [] 0 xs, true) := by
  refine loop0 (g := fun k a i => impl_TiesOf.l0 k a xs (xs.length : Int) i) (fin := fun a => (a, true)) (step := tiS) (fun a i => a.length ≤ i) ?_ ?_ ?_ [] (by simp)
  · intro k a i hv hi
    have c1 : ((i : Int) < (xs.length : Int)) := by omega
    have c2 : (0 : Int) ≤ (i : Int) := by omega
    have c4 : a.length < 17592186044416 := by omega
    have e := wsucc i xs.length hi (by omega)
    by_cases x : rd xs (i : Int) = 0
    · simp only [impl_TiesOf.l0, if_pos c1, if_pos c2, if_pos x, if_pos c4, e, tiS]
    · simp only [impl_TiesOf.l0, if_pos c1, if_pos c2, if_neg x, e, tiS]
  · intro a i hv hi
    unfold tiS
    split
    · rw [List.length_append]; simp; omega
    · omega
  · intro k a hv
    have c : ¬ ((xs.length : Int) < (xs.length : Int)) := by omega
    simp only [impl_TiesOf.l0, if_neg c]
theorem specTies_ev (xs : List Int) (hl : xs.length ≤ 41) : Ev (fun k => spec_TiesOf.l0 k [] xs (xs.length : Int) 0) (foldI tiS [] 0 xs, true) := by
  refine loop0 (g := fun k a i => spec_TiesOf.l0 k a xs (xs.length : Int) i) (fin := fun a => (a, true)) (step := tiS) (fun a i => a.length ≤ i) ?_ ?_ ?_ [] (by simp)
  · intro k a i hv hi
    have c1 : ((i : Int) < (xs.length : Int)) := by omega
    have c2 : (0 : Int) ≤ (i : Int) := by omega
    have c4 : a.length < 17592186044416 := by omega
    have e := wsucc i xs.length hi (by omega)
    by_cases x : rd xs (i : Int) = 0
    · simp only [spec_TiesOf.l0, if_pos c1, if_pos c2, if_pos x, if_pos c4, e, tiS]
    · simp only [spec_TiesOf.l0, if_pos c1, if_pos c2, if_neg x, e, tiS]
  · intro a i hv hi
    unfold tiS
    split
    · rw [List.length_append]; simp; omega
    · omega
  · intro k a hv
    have c : ¬ ((xs.length : Int) < (xs.length : Int)) := by omega
    simp only [spec_TiesOf.l0, if_neg c]
theorem FnExactTiesOf : laws_FnExactTiesOf.Pure := by
  intro s q _ _
  refine Ev.rounds ?_
  unfold laws_FnExactTiesOf.f
  by_cases h : (s.size : Int) > 1048576
  · simp only [if_pos h]; exact Ev.now _
  simp only [if_neg h]
  by_cases a : AskB s q = true
  · obtain ⟨g, hq⟩ := AskB_iff a
    have hn := (GoodP_iff g).1
    have hl := ti_len (ML q s) [] 0
    rw [ML_len] at hl
    simp at hl
    refine TiesOf_frame s q (foldI tiS [] 0 (ML q s)) true (by omega) ?_ ?_
    · unfold spec_TiesOf.f
      refine Ev.bs (baAsked_ev s (by omega) q) ?_
      simp only [a, if_true]
      exact Ev.bs (baMargin_ev s g q (by omega)) (specTies_ev _ (by rw [ML_len]; omega))
    · unfold impl_TiesOf.f
      rw [isVote_eq s (by omega) q]
      simp only [Option.bind_some, a, if_true]
      exact Ev.bs (leads_ev s hn q (by omega)) (implTies_ev _ (by rw [ML_len]; omega))
  · refine TiesOf_frame s q [] false (by simp) ?_ ?_
    · unfold spec_TiesOf.f
      refine Ev.bs (baAsked_ev s (by omega) q) ?_
      simp only [if_neg a]
      exact Ev.now _
    · unfold impl_TiesOf.f
      rw [isVote_eq s (by omega) q]
      simp only [Option.bind_some, if_neg a]
      exact Ev.now _

end Go.Proofs.YtdidmodedgiijaaDoor.Pure
