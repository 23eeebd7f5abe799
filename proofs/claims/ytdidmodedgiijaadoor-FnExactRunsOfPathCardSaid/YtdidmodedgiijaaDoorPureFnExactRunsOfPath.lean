/- The plain law of the statement FnExactRunsOfPath: what the program's function computes is what the reference's computes, for all arguments; no condition. -/
import Derived.Test.YtdidmodedgiijaaDoorPFnExactRunsOfPathx2
namespace Go.Proofs.YtdidmodedgiijaaDoor.Pure
open Go.RowKit Go.Proofs.YtdidmodedgiijaaDoor.PFnExactRunsOfPath Go.Proofs.YtdidmodedgiijaaDoorW.PrintWords Go.Proofs.YtdidmodedgiijaaDoorW.PrintLast Go.Proofs.YtdidmodedgiijaaDoorW.PrintMore

theorem Ev.s {α : Type} {g : Nat → Option α} {r : α} (h : Ev (fun k => g (k + 1)) r) : Ev g r := by
  obtain ⟨K, hK⟩ := h
  refine ⟨K + 1, fun k hk => ?_⟩
  obtain ⟨m, rfl⟩ : ∃ m, k = m + 1 := ⟨k - 1, by omega⟩
  exact hK m (by omega)
theorem Ev.c {α : Type} {o : Option α} {r : α} (h : o = some r) : Ev (fun _ => o) r := ⟨0, fun _ _ => h⟩
theorem Ev.u {α : Type} {g : Nat → Option α} {r r' : α} (h : Ev g r) (h' : Ev g r') : r = r' := by
  obtain ⟨K, hK⟩ := h
  obtain ⟨K', hK'⟩ := h'
  have a := hK (max K K') (by omega)
  have b := hK' (max K K') (by omega)
  rw [a] at b
  exact Option.some.inj b
theorem Ev.e {α : Type} {g : Nat → Option α} {r r' : α} (h : Ev g r) (e : r = r') : Ev g r' := e ▸ h
theorem Ev.bs {α β : Type} {g : Nat → Option α} {f : Nat → α → Option β} {a : α} {r : β} (h : Ev g a) (k : Ev (fun n => f n a) r) : Ev (fun n => Option.bind (g n) (f n)) r := Ev.bind h k
theorem w64 {n : Int} (h : -9223372036854775808 ≤ n) (h' : n ≤ 9223372036854775807) : wrap64 n = n := by unfold wrap64; omega
theorem rd_set (l : List Int) (i j : Int) (v : Int) (hi : 0 ≤ i) (hj : 0 ≤ j) (hl : i < (l.length : Int)) : rd (l.set i.toNat v) j = if i = j then v else rd l j := by
  unfold rd
  rw [List.getD_eq_getElem?_getD, List.getD_eq_getElem?_getD, List.getElem?_set]
  by_cases e : i = j
  · subst e; rw [if_pos rfl, if_pos rfl, if_pos (by omega)]; rfl
  · rw [if_neg (by omega), if_neg e]

theorem drop_rd (l : List Int) (i : Nat) (h : i < l.length) : l.drop i = rd l (i : Int) :: l.drop (i + 1) := by
  rw [List.drop_eq_getElem_cons h]
  unfold rd
  rw [Int.toNat_natCast, List.getD_eq_getElem?_getD, List.getElem?_eq_getElem h]
  rfl
theorem rd_get (l : List Int) (i : Nat) (h : i < l.length) : rd l (i : Int) = l[i] := by
  unfold rd
  rw [Int.toNat_natCast, List.getD_eq_getElem?_getD, List.getElem?_eq_getElem h]
  rfl
theorem wsucc (i n : Nat) (h : i < n) (hn : n ≤ 9223372036854775807) : wrap64 ((i : Int) + 1) = ((i + 1 : Nat) : Int) := by
  rw [w64 (by omega) (by omega)]; omega
theorem rd_cons_succ (x : Int) (l : List Int) (i : Nat) : rd (x :: l) ((i + 1 : Nat) : Int) = rd l (i : Int) := by
  unfold rd
  simp only [Int.toNat_natCast, List.getD_cons_succ]
theorem rd_cons_zero (x : Int) (l : List Int) : rd (x :: l) 0 = x := rfl

theorem rd_last (a : List Int) (x : Int) : rd (a ++ [x]) (a.length : Int) = x := by
  unfold rd
  rw [Int.toNat_natCast, List.getD_eq_getElem?_getD, List.getElem?_append_right (Nat.le_refl _), Nat.sub_self]
  rfl
theorem rd_app (a b : List Int) (i : Int) (h0 : 0 ≤ i) (h : i < (a.length : Int)) : rd (a ++ b) i = rd a i := by
  unfold rd
  rw [List.getD_eq_getElem?_getD, List.getD_eq_getElem?_getD, List.getElem?_append_left (by omega)]
theorem take_last (a : List Int) (x : Int) : (a ++ [x]).take a.length = a := by
  rw [List.take_append_of_le_length (Nat.le_refl _), List.take_length]
theorem set_last (a : List Int) (x y : Int) : (a ++ [x]).set a.length y = a ++ [y] := by
  rw [List.set_append_right _ _ (Nat.le_refl _), Nat.sub_self]
  rfl
theorem last_len (a : List Int) (x : Int) (h : a.length ≤ 1000) : wrap64 (((a ++ [x]).length : Int) - 1) = (a.length : Int) := by
  rw [List.length_append, List.length_singleton, w64 (by omega) (by omega)]; omega

theorem bl (s : ByteArray) : s.data.toList.length = s.size := by rw [Array.length_toList]; rfl
theorem btl (s : ByteArray) (i : Nat) (h : i < s.size) : ∃ hi : i < s.data.toList.length, bt s (i : Int) = ((s.data.toList[i]'hi).toNat : Int) := by
  refine ⟨by rw [bl]; exact h, ?_⟩
  unfold bt
  rw [dif_pos (by simpa using h)]
  rfl
theorem u8_eq (c : UInt8) (n : Nat) (hn : n < 256) : ((c.toNat : Int) = (n : Int)) ↔ c = UInt8.ofNat n := by
  have e : (UInt8.ofNat n).toNat = n := by rw [UInt8.toNat_ofNat', Nat.mod_eq_of_lt hn]
  constructor
  · intro h
    have : c.toNat = n := by omega
    exact UInt8.toNat_inj.1 (by rw [e]; exact this)
  · intro h
    subst h
    rw [e]
theorem bt_eq (s : ByteArray) (i : Nat) (h : i < s.size) (n : Nat) (hn : n < 256) : bt s (i : Int) = (n : Int) ↔ s.data.toList[i]? = some (UInt8.ofNat n) := by
  obtain ⟨h', e⟩ := btl s i h
  rw [e, u8_eq _ n hn, List.getElem?_eq_getElem h']
  simp
theorem toList_eq (s : ByteArray) : s.toList = s.data.toList := by
  exact ByteArray.toList_eq s

/-- Is this byte a step? -/
def stp (c : UInt8) : Bool := c == 85 || c == 68
/-- Is this text a path? -/
def GoodP (s : ByteArray) : Bool := decide (s.size ≤ 40) && s.data.toList.all stp
theorem GoodP_iff {s : ByteArray} (h : GoodP s = true) : s.size ≤ 40 ∧ s.data.toList.all stp = true := by
  unfold GoodP at h
  simpa using h
theorem paGood_l0 (s : ByteArray) (hn : s.size ≤ 1048576) (d : Nat) : ∀ (i : Nat), i + d = s.size → Ev (fun k => spec_paGood.l0 k s (i : Int)) ((s.data.toList.drop i).all stp) := by
  induction d with
  | zero =>
    intro i h
    refine Ev.s ?_
    have c : ¬ ((i : Int) < (s.size : Int)) := by omega
    simp only [spec_paGood.l0, if_neg c]
    rw [List.drop_of_length_le (by rw [bl]; omega)]
    exact Ev.now _
  | succ d ih =>
    intro i h
    refine Ev.s ?_
    have c1 : ((i : Int) < (s.size : Int)) := by omega
    have c2 : (0 : Int) ≤ (i : Int) := by omega
    have e := wsucc i s.size (by omega) (by omega)
    obtain ⟨h', hb⟩ := btl s i (by omega)
    rw [List.drop_eq_getElem_cons h', List.all_cons]
    have h85 : bt s (i : Int) = 85 ↔ s.data.toList[i] = 85 := by rw [hb]; exact u8_eq _ 85 (by omega)
    have h68 : bt s (i : Int) = 68 ↔ s.data.toList[i] = 68 := by rw [hb]; exact u8_eq _ 68 (by omega)
    simp only [spec_paGood.l0, if_pos c1, if_pos c2, e]
    by_cases a : bt s (i : Int) = 85
    · simp only [if_pos a]
      have : stp s.data.toList[i] = true := by rw [h85.1 a]; rfl
      rw [this, Bool.true_and]
      exact ih (i + 1) (by omega)
    · simp only [if_neg a]
      by_cases b : bt s (i : Int) = 68
      · simp only [if_pos b]
        have : stp s.data.toList[i] = true := by rw [h68.1 b]; rfl
        rw [this, Bool.true_and]
        exact ih (i + 1) (by omega)
      · simp only [if_neg b]
        have : stp s.data.toList[i] = false := by
          unfold stp
          rw [h85] at a
          rw [h68] at b
          rw [beq_eq_false_iff_ne.2 a, beq_eq_false_iff_ne.2 b]; rfl
        rw [this, Bool.false_and]
        exact Ev.now _
theorem paGood_ev (s : ByteArray) (hn : s.size ≤ 1048576) : Ev (fun k => spec_paGood.f k s) (GoodP s) := by
  unfold spec_paGood.f GoodP
  by_cases h : (s.size : Int) > 40
  · simp only [if_pos h]
    rw [decide_eq_false (by omega), Bool.false_and]
    exact Ev.now _
  · simp only [if_neg h]
    rw [decide_eq_true (by omega), Bool.true_and]
    exact paGood_l0 s hn s.size 0 (by omega)
theorem dropW_nil (p : UInt8 → Bool) : ∀ l : List UInt8, l.dropWhile p = [] ↔ l.all p = true
  | [] => by simp
  | c :: r => by
    by_cases h : p c = true
    · simp [h, dropW_nil p r]
    · simp [h]
theorem all_dropW (p : UInt8 → Bool) : ∀ l : List UInt8, (l.dropWhile p).all p = l.all p
  | [] => rfl
  | c :: r => by
    by_cases h : p c = true
    · simp only [List.dropWhile_cons, h, if_true, List.all_cons, Bool.true_and]; exact all_dropW p r
    · simp only [List.dropWhile_cons, h, Bool.false_eq_true, if_false]
theorem trim_nil (l : List UInt8) : Lib.trimS l [85, 68] = [] ↔ l.all stp = true := by
  have e : (fun c : UInt8 => [85, 68].contains c) = stp := by
    funext c
    unfold stp
    simp only [List.contains_cons, List.contains_nil, Bool.or_false]
  unfold Lib.trimS Lib.trimLeftS Lib.trimRightS
  rw [e, dropW_nil, List.all_reverse, all_dropW, List.all_reverse]
theorem isPath_eq (s : ByteArray) (hn : s.size ≤ 1048576000) : impl_IsPath.f s = some (GoodP s) := by
  unfold impl_IsPath.f GoodP
  by_cases h : (s.size : Int) ≤ 40
  · rw [if_pos h, decide_eq_true (by omega), Bool.true_and]
    unfold strings_Trim.f
    rw [if_pos ⟨by omega, by decide, by decide⟩]
    simp only [Option.bind_some, toList_eq]
    congr 1
    rw [Bool.eq_iff_iff, beq_iff_eq]
    exact trim_nil _
  · rw [if_neg h, decide_eq_false (by omega), Bool.false_and]

theorem eqIntS_l0 (l m : List Int) (hl : l.length = m.length) (hn : l.length ≤ 35184372088832) (d : Nat) : ∀ (i : Nat), i + d = l.length →
    Ev (fun k => laws_eqIntS.l0 k l m (i : Int)) (decide (l.drop i = m.drop i)) := by
  induction d with
  | zero =>
    intro i hi
    refine Ev.s ?_
    have c : ¬ ((i : Int) < (l.length : Int)) := by omega
    simp only [laws_eqIntS.l0, if_neg c]
    rw [List.drop_of_length_le (by omega), List.drop_of_length_le (by omega)]
    exact Ev.now _
  | succ d ih =>
    intro i hi
    refine Ev.s ?_
    have c1 : ((i : Int) < (l.length : Int)) := by omega
    have c2 : (0 : Int) ≤ (i : Int) := by omega
    have c3 : ((i : Int) < (m.length : Int)) := by omega
    have e := wsucc i l.length (by omega) (by omega)
    simp only [laws_eqIntS.l0, if_pos c1, if_pos c2, if_pos c3, e]
    rw [drop_rd l i (by omega), drop_rd m i (by omega)]
    by_cases h : rd l (i : Int) = rd m (i : Int)
    · simp only [if_pos h]
      refine Ev.e (ih (i + 1) (by omega)) ?_
      simp [h]
    · simp only [if_neg h]
      have : (decide (rd l (i : Int) :: l.drop (i + 1) = rd m (i : Int) :: m.drop (i + 1))) = false := by
        apply decide_eq_false; intro h'; exact h (List.cons.inj h').1
      rw [this]; exact Ev.now _
theorem eqIntS_ev (l m : List Int) (hn : l.length ≤ 35184372088832) : Ev (fun k => laws_eqIntS.f k l m) (decide (l = m)) := by
  unfold laws_eqIntS.f
  by_cases h : l.length = m.length
  · have c : ((l.length : Int) = (m.length : Int)) := by omega
    simp only [if_pos c]
    exact eqIntS_l0 l m h hn l.length 0 (by omega)
  · have c : ¬ ((l.length : Int) = (m.length : Int)) := by omega
    simp only [if_neg c]
    have : decide (l = m) = false := by apply decide_eq_false; intro e; rw [e] at h; exact h rfl
    rw [this]; exact Ev.now _

/-- k, k + 1, .. -/
def upL : Int → Nat → List Int
  | _, 0 => []
  | k, n + 1 => k :: upL (k + 1) n
theorem upL_len : ∀ (n : Nat) (k : Int), (upL k n).length = n
  | 0, _ => rfl
  | n + 1, k => by simp only [upL, List.length_cons, upL_len n]
theorem upL_snoc : ∀ (n : Nat) (k : Int), upL k (n + 1) = upL k n ++ [k + n]
  | 0, k => by simp [upL]
  | n + 1, k => by
    rw [upL, upL_snoc n (k + 1), upL, List.cons_append, Int.natCast_succ, show k + 1 + (n : Int) = k + ((n : Int) + 1) from by omega]
theorem upL_rd : ∀ (n i : Nat) (k : Int), i < n → rd (upL k n) (i : Int) = k + i
  | n + 1, 0, k, _ => by simp [upL, rd_cons_zero]
  | n + 1, i + 1, k, h => by
    rw [upL, rd_cons_succ, upL_rd n i (k + 1) (by omega), Int.natCast_succ]; omega
theorem markIntS_ev (l : List Int) (hl : l.length ≤ 1000000) : Ev (fun k => laws_markIntS.f k l 1) (1 + (l.length : Int), upL 1 l.length) := by
  have key : ∀ (d i : Nat) (m : List Int), i + d = l.length → m.length = l.length → m.take i = upL 1 i → Ev (fun k => laws_markIntS.l0 k m (1 + (i : Int)) (i : Int)) (1 + (l.length : Int), upL 1 l.length) := by
    intro d
    induction d with
    | zero =>
      intro i m hi hm ht
      refine Ev.s ?_
      have c : ¬ ((i : Int) < (m.length : Int)) := by omega
      simp only [laws_markIntS.l0, if_neg c]
      rw [List.take_of_length_le (by omega)] at ht
      rw [ht, show i = l.length from by omega]
      exact Ev.now _
    | succ d ih =>
      intro i m hi hm ht
      refine Ev.s ?_
      have c1 : ((i : Int) < (m.length : Int)) := by omega
      have c2 : (0 : Int) ≤ (i : Int) := by omega
      have e := wsucc i l.length (by omega) (by omega)
      have e2 : wrap64 (1 + (i : Int) + 1) = 1 + ((i + 1 : Nat) : Int) := by rw [w64 (by omega) (by omega)]; omega
      simp only [laws_markIntS.l0, if_pos c1, if_pos c2, e, e2, Int.toNat_natCast]
      refine ih (i + 1) _ (by omega) (by simpa using hm) ?_
      rw [List.take_succ_eq_append_getElem (by simp; omega), List.take_set_of_le (by omega), ht, upL_snoc]
      simp
  have := key l.length 0 l (by omega) rfl rfl
  exact this
theorem heldIntS_ev (n : Nat) (hn : n ≤ 1000000) : Ev (fun k => laws_heldIntS.f k (upL 1 n) 1) (1 + (n : Int)) := by
  have key : ∀ (d i : Nat), i + d = n → Ev (fun k => laws_heldIntS.l0 k (upL 1 n) (1 + (i : Int)) (i : Int)) (1 + (n : Int)) := by
    intro d
    induction d with
    | zero =>
      intro i hi
      refine Ev.s ?_
      have c : ¬ ((i : Int) < ((upL 1 n).length : Int)) := by rw [upL_len]; omega
      simp only [laws_heldIntS.l0, if_neg c]
      rw [show i = n from by omega]
      exact Ev.now _
    | succ d ih =>
      intro i hi
      refine Ev.s ?_
      have c1 : ((i : Int) < ((upL 1 n).length : Int)) := by rw [upL_len]; omega
      have c2 : (0 : Int) ≤ (i : Int) := by omega
      have c3 := upL_rd n i 1 (by omega)
      have e := wsucc i n (by omega) (by omega)
      have e2 : wrap64 (1 + (i : Int) + 1) = 1 + ((i + 1 : Nat) : Int) := by rw [w64 (by omega) (by omega)]; omega
      simp only [laws_heldIntS.l0, if_pos c1, if_pos c2, c3, if_true, e, e2]
      exact ih (i + 1) (by omega)
  have := key n 0 (by omega)
  exact this

theorem bt_drop (s : ByteArray) (i : Nat) (c : UInt8) (r : List UInt8) (h : s.data.toList.drop i = c :: r) : i < s.size ∧ bt s (i : Int) = (c.toNat : Int) ∧ s.data.toList.drop (i + 1) = r := by
  have hi : i < s.data.toList.length := by
    by_cases g : i < s.data.toList.length
    · exact g
    · rw [List.drop_of_length_le (by omega)] at h; cases h
  have hi' : i < s.size := by rwa [bl] at hi
  obtain ⟨h', hb⟩ := btl s i hi'
  rw [List.drop_eq_getElem_cons h'] at h
  injection h with h1 h2
  exact ⟨hi', by rw [hb, h1], h2⟩

theorem RunsOfPath_frame (s : ByteArray) (v : List Int) (b : Bool) (hv : v.length ≤ 1000000) (e1 : Ev (fun k => spec_RunsOfPath.f k s) (v, b)) (e2 : Ev (fun k => impl_RunsOfPath.f k s) (v, b)) :
    Ev (fun k => (spec_RunsOfPath.f k s).bind fun bt1 => ((impl_RunsOfPath.f k s).bind fun bt2 => ((laws_eqIntS.f k bt2.1 bt1.1).bind fun t => (if t = true then (laws_FnExactRunsOfPath.j0 k s bt1.1 bt1.2 bt2.1 (bt2.2 != bt1.2)) else (laws_FnExactRunsOfPath.j0 k s bt1.1 bt1.2 bt2.1 true))))) true := by
  have hh := heldIntS_ev v.length hv
  refine Ev.bs e1 (Ev.bs e2 (Ev.bs (eqIntS_ev v v (by omega)) ?_))
  simp only [decide_true, if_true, bne_self_eq_false]
  refine Ev.s ?_
  simp only [laws_FnExactRunsOfPath.j0, Bool.false_eq_true, if_false]
  refine Ev.bs (markIntS_ev v hv) (Ev.bs hh ?_)
  have c1 : ¬ (1 + (v.length : Int) < 0) := by omega
  simp only [if_neg c1, if_true]
  refine Ev.bs e2 (Ev.bs (eqIntS_ev v v (by omega)) ?_)
  simp only [decide_true, if_true, bne_self_eq_false]
  refine Ev.s ?_
  simp only [laws_FnExactRunsOfPath.j1, Bool.false_eq_true, if_false]
  refine Ev.bs hh ?_
  simp only [if_neg c1, if_true]
  exact Ev.now _

/-- The runs of a text, with the run that is open. -/
def RU : UInt8 → Int → List UInt8 → List Int
  | _, n, [] => [n]
  | u, n, c :: r => if c = u then RU u (n + 1) r else n :: RU c 1 r
theorem RU_len : ∀ (l : List UInt8) (u : UInt8) (n : Int), (RU u n l).length ≤ l.length + 1
  | [], _, _ => Nat.le_refl _
  | c :: r, u, n => by
    unfold RU
    by_cases h : c = u
    · rw [if_pos h, List.length_cons]; have := RU_len r u (n + 1); omega
    · rw [if_neg h, List.length_cons, List.length_cons]; have := RU_len r c 1; omega
theorem RU_s (u : UInt8) (n : Int) (r : List UInt8) : RU u n (u :: r) = RU u (n + 1) r := if_pos rfl
theorem RU_d (c u : UInt8) (n : Int) (r : List UInt8) (h : ¬ c = u) : RU u n (c :: r) = n :: RU c 1 r := if_neg h
theorem len1 (a : List Int) (x : Int) : (a ++ [x]).length = a.length + 1 := by rw [List.length_append, List.length_singleton]
/-- The runs of a path. -/
def RUNS (l : List UInt8) : List Int := if l = [] then [] else RU 85 0 l
theorem u8i (c u : UInt8) : ((c.toNat : Int) = (u.toNat : Int)) ↔ c = u := by
  constructor
  · intro h; exact UInt8.toNat_inj.1 (by omega)
  · intro h; rw [h]
theorem stp_iff (c : UInt8) : stp c = true ↔ c = 85 ∨ c = 68 := by
  unfold stp
  rw [Bool.or_eq_true, beq_iff_eq, beq_iff_eq]
theorem flip_u (c u : UInt8) (hc : c = 85 ∨ c = 68) (hu : u = 85 ∨ u = 68) (h : ¬ c = u) : (153 - (u.toNat : Int)) % 256 = (c.toNat : Int) := by
  rcases hc with rfl | rfl <;> rcases hu with rfl | rfl
  · exact absurd rfl h
  · rfl
  · rfl
  · exact absurd rfl h
theorem all_drop (s : ByteArray) (g : GoodP s = true) (i : Nat) : ∀ c ∈ s.data.toList.drop i, c = 85 ∨ c = 68 := fun c hc =>
  (stp_iff c).1 (List.all_eq_true.1 (GoodP_iff g).2 c (List.mem_of_mem_drop hc))
theorem specRuns_l1 (s : ByteArray) (g : GoodP s = true) : ∀ (l : List UInt8) (i : Nat) (acc : List Int) (u : UInt8) (n : Nat), i ≤ s.size → s.data.toList.drop i = l → (u = 85 ∨ u = 68) → acc.length ≤ i → n ≤ i →
    Ev (fun k => spec_RunsOfPath.l1 k s acc (u.toNat : Int) (i : Int) (n : Int)) (acc ++ RU u n l, true) := by
  have h40 := (GoodP_iff g).1
  intro l
  induction l with
  | nil =>
    intro i acc u n hi hd hu ha hn
    have : i = s.size := by
      have := congrArg List.length hd
      rw [List.length_drop, bl, List.length_nil] at this
      omega
    have c : ¬ ((i : Int) < (s.size : Int)) := by omega
    have c2 : acc.length < 17592186044416 := by omega
    refine Ev.s ?_
    simp only [spec_RunsOfPath.l1, if_neg c, if_pos c2]
    refine Ev.s ?_
    simp only [spec_RunsOfPath.l0, if_neg c]
    exact Ev.now _
  | cons c r ih =>
    intro i acc u n hi hd hu ha hn
    obtain ⟨h1, h2, h3⟩ := bt_drop s i c r hd
    have hc := all_drop s g i c (by rw [hd]; exact List.mem_cons_self ..)
    have c1 : (i : Int) < (s.size : Int) := by omega
    have c2 : (0 : Int) ≤ (i : Int) := by omega
    have c3 : acc.length < 17592186044416 := by omega
    by_cases e : c = u
    · have hb : bt s (i : Int) = (u.toNat : Int) := by rw [h2, e]
      have hx := ih (i + 1) acc u (n + 1) (by omega) h3 hu (by omega) (by omega)
      refine Ev.s ?_
      simp only [spec_RunsOfPath.l1, if_pos c1, if_pos c2, if_pos hb, wsucc i 40 (by omega) (by omega), wsucc n 40 (by omega) (by omega)]
      unfold RU
      rw [if_pos e, ← Int.natCast_succ]
      exact hx
    · have hb : ¬ (bt s (i : Int) = (u.toNat : Int)) := by rw [h2, u8i]; exact e
      have hx := ih (i + 1) (acc ++ [(n : Int)]) c 1 (by omega) h3 hc (by rw [List.length_append, List.length_singleton]; omega) (by omega)
      refine Ev.s ?_
      simp only [spec_RunsOfPath.l1, if_pos c1, if_pos c2, if_neg hb, if_pos c3, flip_u c u hc hu e]
      refine Ev.s ?_
      simp only [spec_RunsOfPath.l0, if_pos c1]
      refine Ev.s ?_
      have w1 : wrap64 ((0 : Int) + 1) = ((1 : Nat) : Int) := by rw [w64 (by omega) (by omega)]; rfl
      simp only [spec_RunsOfPath.l1, if_pos c1, if_pos c2, if_pos h2, w1, wsucc i 40 (by clear w1; omega) (by omega)]
      unfold RU
      rw [if_neg e]
      rw [List.append_assoc] at hx
      exact hx
theorem implRuns_l0 (s : ByteArray) (g : GoodP s = true) : ∀ (l : List UInt8) (i : Nat) (pre : List Int) (u : UInt8) (n : Nat), 1 ≤ i → i ≤ s.size → s.data.toList.drop (i - 1) = u :: l → pre.length ≤ i + 1 → n ≤ i →
    Ev (fun k => impl_RunsOfPath.l0 k s (pre ++ [(n : Int)]) (s.size : Int) (i : Int)) (pre ++ RU u n l, true) := by
  have h40 := (GoodP_iff g).1
  intro l
  induction l with
  | nil =>
    intro i pre u n hi1 hi hd ha hn
    obtain ⟨h1, h2, h3⟩ := bt_drop s (i - 1) u [] hd
    have : i = s.size := by
      have := congrArg List.length h3
      rw [List.length_drop, bl, List.length_nil] at this
      omega
    have c : ¬ ((i : Int) < (s.size : Int)) := by omega
    refine Ev.s ?_
    simp only [impl_RunsOfPath.l0, if_neg c]
    exact Ev.now _
  | cons c r ih =>
    intro i pre u n hi1 hi hd ha hn
    obtain ⟨p1, p2, p3⟩ := bt_drop s (i - 1) u (c :: r) hd
    have p3' : s.data.toList.drop i = c :: r := by rw [show i = i - 1 + 1 from by omega]; exact p3
    obtain ⟨h1, h2, h3⟩ := bt_drop s i c r p3'
    have c1 : (i : Int) < (s.size : Int) := by omega
    have c2 : (0 : Int) ≤ (i : Int) := by omega
    have c0 : ¬ ((i : Int) = 0) := by omega
    have c3 : (0 : Int) ≤ ((i - 1 : Nat) : Int) := by omega
    have c4 : ((i - 1 : Nat) : Int) < (s.size : Int) := by omega
    have c5 : (pre ++ [(n : Int)]).length < 17592186044416 := by rw [List.length_append, List.length_singleton]; omega
    have w0 : wrap64 ((i : Int) - 1) = ((i - 1 : Nat) : Int) := by rw [w64 (by omega) (by omega)]; omega
    have hplen : pre.length ≤ 1000 := by clear w0; omega
    have hplen2 : (pre ++ [(n : Int)]).length ≤ 1000 := by clear w0; rw [List.length_append, List.length_singleton]; omega
    have hi41 : i < 41 := by clear w0; omega
    have hn41 : n < 41 := by clear w0; omega
    have hd' : s.data.toList.drop (i + 1 - 1) = c :: r := by rw [show i + 1 - 1 = i from by clear w0; omega]; exact p3'
    by_cases e : c = u
    · have hb : bt s (i : Int) = bt s ((i - 1 : Nat) : Int) := by rw [h2, p2, e]
      have d1 : (0 : Int) ≤ (pre.length : Int) := by clear w0; omega
      have d2 : (pre.length : Int) < ((pre ++ [(n : Int)]).length : Int) := by clear w0; rw [List.length_append, List.length_singleton]; omega
      have hx := ih (i + 1) pre u (n + 1) (by clear w0; omega) (by clear w0; omega) (by rw [← e]; exact hd') (by clear w0; omega) (by clear w0; omega)
      refine Ev.s ?_
      simp only [impl_RunsOfPath.l0, if_pos c1, if_neg c0, if_pos c2, w0, if_pos c3, if_pos c4, if_pos hb, last_len pre _ hplen, if_pos d1, if_pos d2, rd_last, Int.toNat_natCast, set_last, wsucc i 41 hi41 (by decide), wsucc n 41 hn41 (by decide)]
      unfold RU
      rw [if_pos e, ← Int.natCast_succ]
      exact hx
    · have hb : ¬ (bt s (i : Int) = bt s ((i - 1 : Nat) : Int)) := by rw [h2, p2, u8i]; exact e
      have d1 : (0 : Int) ≤ ((pre ++ [(n : Int)]).length : Int) := by clear w0; omega
      have d2 : ((pre ++ [(n : Int)]).length : Int) < ((pre ++ [(n : Int)] ++ [0]).length : Int) := by clear w0; rw [len1 (pre ++ [(n : Int)]) 0]; omega
      have hx := ih (i + 1) (pre ++ [(n : Int)]) c 1 (by clear w0; omega) (by clear w0; omega) hd' (by clear w0; rw [List.length_append, List.length_singleton]; omega) (by clear w0; omega)
      have w1 : wrap64 ((0 : Int) + 1) = ((1 : Nat) : Int) := by clear w0; rw [w64 (by omega) (by omega)]; rfl
      refine Ev.s ?_
      simp only [impl_RunsOfPath.l0, if_pos c1, if_neg c0, if_pos c2, w0, if_pos c3, if_pos c4, if_neg hb, if_pos c5, Option.bind_some, last_len _ _ hplen2, if_pos d1, if_pos d2, rd_last, Int.toNat_natCast, set_last, w1, wsucc i 41 hi41 (by decide)]
      rw [RU_d c u n r e]
      have e3 : pre ++ [(n : Int)] ++ RU c ((1 : Nat) : Int) r = pre ++ (n : Int) :: RU c 1 r := by rw [List.append_assoc]; rfl
      rw [e3] at hx
      exact hx
theorem hasPrefix_D (s : ByteArray) (hn : s.size ≤ 40) : strings_HasPrefix.f s (⟨#[68]⟩ : ByteArray) = some (decide (s.data.toList.head? = some 68)) := by
  unfold strings_HasPrefix.f stringslite_HasPrefix.f
  have e1 : (⟨#[68]⟩ : ByteArray).size = 1 := rfl
  rw [e1]
  by_cases c : (s.size : Int) ≥ ((1 : Nat) : Int)
  · rw [if_pos c, if_pos (by omega), if_pos (by omega)]
    simp only [Option.bind_some, Int.toNat_natCast, toList_eq]
    congr 1
    have hl : 0 < s.data.toList.length := by rw [bl]; omega
    cases hd : s.data.toList with
    | nil => rw [hd] at hl; cases hl
    | cons a r =>
      have : (s.extract 0 1).data.toList = [a] := by
        rw [ByteArray.data_extract, Array.toList_extract, hd]
        rfl
      rw [this]
      by_cases z : a = 68
      · subst z; rfl
      · have z1 : ([a] == (⟨#[68]⟩ : ByteArray).data.toList) = false := by
          rw [beq_eq_false_iff_ne]
          intro h
          injection h with h1 _
          exact z h1
        rw [z1]
        simp [z]
  · rw [if_neg c]
    simp only [Option.bind_some]
    have : s.data.toList = [] := List.eq_nil_of_length_eq_zero (by rw [bl]; omega)
    rw [this]
    rfl
theorem implRuns_j0 (s : ByteArray) (g : GoodP s = true) : Ev (fun k => impl_RunsOfPath.j0 k s (if s.data.toList.head? = some 68 then [0] else [])) (RUNS s.data.toList, true) := by
  have h40 := (GoodP_iff g).1
  refine Ev.s ?_
  simp only [impl_RunsOfPath.j0]
  unfold RUNS
  cases hd : s.data.toList with
  | nil =>
    have hz : s.size = 0 := by rw [← bl, hd]; rfl
    refine Ev.s ?_
    have c : ¬ ((0 : Int) < (s.size : Int)) := by omega
    simp only [impl_RunsOfPath.l0, if_neg c]
    exact Ev.now _
  | cons a r =>
    have hd0 : s.data.toList.drop 0 = a :: r := by rw [List.drop_zero]; exact hd
    obtain ⟨h1, h2, h3⟩ := bt_drop s 0 a r hd0
    have ha := all_drop s g 0 a (by rw [hd0]; exact List.mem_cons_self ..)
    simp only [List.head?_cons, Option.some.injEq]
    have hacc : (if a = 68 then ([0] : List Int) else []).length ≤ 1 := by split <;> simp
    have hres : (if a = 68 then ([0] : List Int) else []) ++ RU a ((1 : Nat) : Int) r = RU 85 0 (a :: r) := by
      rcases ha with rfl | rfl
      · rw [if_neg (by decide), RU_s]; rfl
      · rw [if_pos rfl, RU_d _ _ _ _ (by decide)]; rfl
    generalize (if a = 68 then ([0] : List Int) else []) = acc at hacc hres
    have hx := implRuns_l0 s g r 1 acc a 1 (Nat.le_refl _) (by omega) hd0 (by omega) (Nat.le_refl _)
    rw [hres] at hx
    refine Ev.s ?_
    have c1 : (0 : Int) < (s.size : Int) := by omega
    have c3 : acc.length < 17592186044416 := by omega
    have d1 : (0 : Int) ≤ (acc.length : Int) := by omega
    have d2 : (acc.length : Int) < ((acc ++ [0]).length : Int) := by rw [List.length_append, List.length_singleton]; omega
    have hl := last_len acc 0 (by omega)
    have w1 : wrap64 ((0 : Int) + 1) = ((1 : Nat) : Int) := by clear hl; rw [w64 (by omega) (by omega)]; rfl
    simp only [impl_RunsOfPath.l0, if_pos c1, if_true, if_pos c3, Option.bind_some, hl, if_pos d1, if_pos d2, rd_last, Int.toNat_natCast, set_last, w1]
    exact hx
theorem FnExactRunsOfPath : laws_FnExactRunsOfPath.Pure := by
  intro s _
  refine Ev.rounds ?_
  unfold laws_FnExactRunsOfPath.f
  by_cases h : (s.size : Int) > 1048576
  · simp only [if_pos h]; exact Ev.now _
  simp only [if_neg h]
  by_cases g : GoodP s = true
  · have hn := (GoodP_iff g).1
    have hlen : (RUNS s.data.toList).length ≤ 41 := by
      unfold RUNS
      split
      · exact Nat.zero_le _
      · have := RU_len s.data.toList 85 0
        rw [bl] at this
        omega
    refine RunsOfPath_frame s (RUNS s.data.toList) true (by omega) ?_ ?_
    · unfold spec_RunsOfPath.f
      refine Ev.bs (paGood_ev s (by omega)) ?_
      simp only [g, if_true]
      refine Ev.s ?_
      by_cases z : s.data.toList = []
      · have hz : s.size = 0 := by rw [← bl, z]; rfl
        have c : ¬ ((0 : Int) < (s.size : Int)) := by omega
        simp only [spec_RunsOfPath.l0, if_neg c]
        unfold RUNS
        rw [if_pos z]
        exact Ev.now _
      · have hz : 0 < s.size := by rw [← bl]; exact List.length_pos_iff.2 z
        have c : ((0 : Int) < (s.size : Int)) := by omega
        simp only [spec_RunsOfPath.l0, if_pos c]
        unfold RUNS
        rw [if_neg z]
        exact specRuns_l1 s g s.data.toList 0 [] 85 0 (by omega) (by rw [List.drop_zero]) (.inl rfl) (by simp) (Nat.le_refl _)
    · unfold impl_RunsOfPath.f
      rw [isPath_eq s (by omega), hasPrefix_D s hn]
      have c3 : ([] : List Int).length < 17592186044416 := by rw [List.length_nil]; omega
      have hj := implRuns_j0 s g
      simp only [Option.bind_some, g, if_true, if_pos c3, decide_eq_true_eq, List.nil_append]
      by_cases z : s.data.toList.head? = some 68
      · simp only [if_pos z] at hj ⊢
        exact hj
      · simp only [if_neg z] at hj ⊢
        exact hj
  · refine RunsOfPath_frame s [] false (by simp) ?_ ?_
    · unfold spec_RunsOfPath.f
      refine Ev.bs (paGood_ev s (by omega)) ?_
      simp only [if_neg g]
      exact Ev.now _
    · unfold impl_RunsOfPath.f
      rw [isPath_eq s (by omega)]
      simp only [Option.bind_some, if_neg g]
      exact Ev.now _

end Go.Proofs.YtdidmodedgiijaaDoor.Pure
