/- The plain law of the statement FnExactPathOfRuns: what the program's function computes is what the reference's computes, for all arguments; no condition. -/
import Derived.Test.YtepheolianmkbaaPFnExactPathOfRunsx3
namespace Go.Proofs.Ytepheolianmkbaa.Pure
open Go.RowKit Go.Proofs.Ytepheolianmkbaa.PFnExactPathOfRuns Go.Proofs.YtepheolianmkbaaW.PrintWords Go.Proofs.YtepheolianmkbaaW.PrintLast Go.Proofs.YtepheolianmkbaaW.PrintMore

theorem Ev.s {α : Type} {g : Nat → Option α} {r : α} (h : Ev (fun k => g (k + 1)) r) : Ev g r := by
  obtain ⟨K, hK⟩ := h
  refine ⟨K + 1, fun k hk => ?_⟩
  obtain ⟨m, rfl⟩ : ∃ m, k = m + 1 := ⟨k - 1, by omega⟩
  exact hK m (by omega)
theorem Ev.c {α : Type} {o : Option α} {r : α} (h : o = some r) : Ev (fun _ => o) r := ⟨0, fun _ _ => h⟩
theorem Ev.u {α : Type} {g : Nat → Option α} {r r' : α} (h : Ev g r) (h' : Ev g r') : r = r' := by
  obtain ⟨K, hK⟩ := h
  obtain ⟨K', hK'⟩ := h'
  have a := hK (max K K') (by omega)
  have b := hK' (max K K') (by omega)
  rw [a] at b
  exact Option.some.inj b
theorem Ev.e {α : Type} {g : Nat → Option α} {r r' : α} (h : Ev g r) (e : r = r') : Ev g r' := e ▸ h
theorem Ev.bs {α β : Type} {g : Nat → Option α} {f : Nat → α → Option β} {a : α} {r : β} (h : Ev g a) (k : Ev (fun n => f n a) r) : Ev (fun n => Option.bind (g n) (f n)) r := Ev.bind h k
theorem w64 {n : Int} (h : -9223372036854775808 ≤ n) (h' : n ≤ 9223372036854775807) : wrap64 n = n := by unfold wrap64; omega
theorem rd_set (l : List Int) (i j : Int) (v : Int) (hi : 0 ≤ i) (hj : 0 ≤ j) (hl : i < (l.length : Int)) : rd (l.set i.toNat v) j = if i = j then v else rd l j := by
  unfold rd
  rw [List.getD_eq_getElem?_getD, List.getD_eq_getElem?_getD, List.getElem?_set]
  by_cases e : i = j
  · subst e; rw [if_pos rfl, if_pos rfl, if_pos (by omega)]; rfl
  · rw [if_neg (by omega), if_neg e]

theorem drop_rd (l : List Int) (i : Nat) (h : i < l.length) : l.drop i = rd l (i : Int) :: l.drop (i + 1) := by
  rw [List.drop_eq_getElem_cons h]
  unfold rd
  rw [Int.toNat_natCast, List.getD_eq_getElem?_getD, List.getElem?_eq_getElem h]
  rfl
theorem rd_get (l : List Int) (i : Nat) (h : i < l.length) : rd l (i : Int) = l[i] := by
  unfold rd
  rw [Int.toNat_natCast, List.getD_eq_getElem?_getD, List.getElem?_eq_getElem h]
  rfl
theorem wsucc (i n : Nat) (h : i < n) (hn : n ≤ 9223372036854775807) : wrap64 ((i : Int) + 1) = ((i + 1 : Nat) : Int) := by
  rw [w64 (by omega) (by omega)]; omega
theorem rd_cons_succ (x : Int) (l : List Int) (i : Nat) : rd (x :: l) ((i + 1 : Nat) : Int) = rd l (i : Int) := by
  unfold rd
  simp only [Int.toNat_natCast, List.getD_cons_succ]
theorem rd_cons_zero (x : Int) (l : List Int) : rd (x :: l) 0 = x := rfl

theorem in_eq (a b c : Int) : impl_in.f a b c = some (decide (b ≤ a ∧ a ≤ c)) := by
  unfold impl_in.f
  by_cases h : b ≤ a
  · rw [if_pos h]; simp [h]
  · rw [if_neg h]; simp [h]
theorem l1In_eq (a b c : Int) : spec_l1In.f a b c = some (decide (b ≤ a ∧ a ≤ c)) := by
  unfold spec_l1In.f
  by_cases h : a ≥ b
  · rw [if_pos h]; simp [h]
  · rw [if_neg h]; simp [h]

theorem toIntS_l0 (l : List Int) (hn : l.length ≤ 35184372088832) (d : Nat) : ∀ (i : Nat) (m : List Int), i + d = l.length → m.length = l.length → m.take i = l.take i →
    Ev (fun k => laws_toIntS.l0 k l m (i : Int)) l := by
  induction d with
  | zero =>
    intro i m hi hm ht
    refine Ev.s ?_
    have c : ¬ ((i : Int) < (l.length : Int)) := by omega
    simp only [laws_toIntS.l0, if_neg c]
    rw [List.take_of_length_le (by omega), List.take_of_length_le (by omega)] at ht
    rw [ht]; exact Ev.now _
  | succ d ih =>
    intro i m hi hm ht
    refine Ev.s ?_
    have c1 : ((i : Int) < (l.length : Int)) := by omega
    have c2 : (0 : Int) ≤ (i : Int) := by omega
    have c3 : ((i : Int) < (m.length : Int)) := by omega
    have e := wsucc i l.length (by omega) (by omega)
    simp only [laws_toIntS.l0, if_pos c1, if_pos c2, if_pos c3, e, Int.toNat_natCast]
    refine ih (i + 1) _ (by omega) (by simpa using hm) ?_
    rw [rd_get l i (by omega)]
    rw [List.take_succ_eq_append_getElem (by simp; omega), List.take_set_of_le (by omega), ht, List.take_succ_eq_append_getElem (by omega)]
    simp
theorem toIntS_ev (l : List Int) (hn : l.length ≤ 35184372088832) : Ev (fun k => laws_toIntS.f k l) l := by
  unfold laws_toIntS.f
  have c1 : (0 : Int) ≤ (l.length : Int) := by omega
  have c2 : ((l.length : Int) : Int).toNat ≤ 35184372088832 := by omega
  simp only [if_pos c1, if_pos c2]
  exact toIntS_l0 l hn l.length 0 _ (by omega) (by simp) (by simp)

theorem eqIntS_l0 (l m : List Int) (hl : l.length = m.length) (hn : l.length ≤ 35184372088832) (d : Nat) : ∀ (i : Nat), i + d = l.length →
    Ev (fun k => laws_eqIntS.l0 k l m (i : Int)) (decide (l.drop i = m.drop i)) := by
  induction d with
  | zero =>
    intro i hi
    refine Ev.s ?_
    have c : ¬ ((i : Int) < (l.length : Int)) := by omega
    simp only [laws_eqIntS.l0, if_neg c]
    rw [List.drop_of_length_le (by omega), List.drop_of_length_le (by omega)]
    exact Ev.now _
  | succ d ih =>
    intro i hi
    refine Ev.s ?_
    have c1 : ((i : Int) < (l.length : Int)) := by omega
    have c2 : (0 : Int) ≤ (i : Int) := by omega
    have c3 : ((i : Int) < (m.length : Int)) := by omega
    have e := wsucc i l.length (by omega) (by omega)
    simp only [laws_eqIntS.l0, if_pos c1, if_pos c2, if_pos c3, e]
    rw [drop_rd l i (by omega), drop_rd m i (by omega)]
    by_cases h : rd l (i : Int) = rd m (i : Int)
    · simp only [if_pos h]
      refine Ev.e (ih (i + 1) (by omega)) ?_
      simp [h]
    · simp only [if_neg h]
      have : (decide (rd l (i : Int) :: l.drop (i + 1) = rd m (i : Int) :: m.drop (i + 1))) = false := by
        apply decide_eq_false; intro h'; exact h (List.cons.inj h').1
      rw [this]; exact Ev.now _
theorem eqIntS_ev (l m : List Int) (hn : l.length ≤ 35184372088832) : Ev (fun k => laws_eqIntS.f k l m) (decide (l = m)) := by
  unfold laws_eqIntS.f
  by_cases h : l.length = m.length
  · have c : ((l.length : Int) = (m.length : Int)) := by omega
    simp only [if_pos c]
    exact eqIntS_l0 l m h hn l.length 0 (by omega)
  · have c : ¬ ((l.length : Int) = (m.length : Int)) := by omega
    simp only [if_neg c]
    have : decide (l = m) = false := by apply decide_eq_false; intro e; rw [e] at h; exact h rfl
    rw [this]; exact Ev.now _

theorem l1All_l0 (lo hi : Int) (l : List Int) (hn : l.length ≤ 35184372088832) (d : Nat) : ∀ (i : Nat), i + d = l.length →
    Ev (fun k => spec_l1All.l0 k lo hi l (l.length : Int) (i : Int)) ((l.drop i).all (fun x => decide (lo ≤ x ∧ x ≤ hi))) := by
  induction d with
  | zero =>
    intro i h
    refine Ev.s ?_
    have c : ¬ ((i : Int) < (l.length : Int)) := by omega
    simp only [spec_l1All.l0, if_neg c]
    rw [List.drop_of_length_le (by omega)]
    exact Ev.now _
  | succ d ih =>
    intro i h
    refine Ev.s ?_
    have c1 : ((i : Int) < (l.length : Int)) := by omega
    have c2 : (0 : Int) ≤ (i : Int) := by omega
    have e := wsucc i l.length (by omega) (by omega)
    rw [drop_rd l i (by omega)]
    simp only [spec_l1All.l0, if_pos c1, if_pos c2, e, l1In_eq, Option.bind_some, decide_eq_true_eq, List.all_cons]
    by_cases h' : lo ≤ rd l (i : Int) ∧ rd l (i : Int) ≤ hi
    · simp only [if_pos h', decide_eq_true h', Bool.true_and]
      exact ih (i + 1) (by omega)
    · simp only [if_neg h', decide_eq_false h', Bool.false_and]
      exact Ev.now _
theorem l1All_ev (lo hi : Int) (l : List Int) (hn : l.length ≤ 35184372088832) : Ev (fun k => spec_l1All.f k l lo hi) (l.all (fun x => decide (lo ≤ x ∧ x ≤ hi))) := by
  unfold spec_l1All.f
  exact l1All_l0 lo hi l hn l.length 0 (by omega)

/-- The letter of a run. -/
def LTR (i : Nat) : UInt8 := if i % 2 = 0 then 85 else 68
/-- The least that a run may be. -/
def loR (len i : Nat) : Int := if i = 0 ∧ 1 < len then 0 else 1
/-- The path of runs. -/
def PRF (len : Nat) : Nat → List UInt8 → List Int → Option (List UInt8)
  | _, out, [] => some out
  | i, out, n :: r => if loR len i ≤ n ∧ n ≤ 40 - (out.length : Int) then PRF len (i + 1) (out ++ List.replicate n.toNat (LTR i)) r else none
theorem PRF_range (len : Nat) : ∀ (l : List Int) (i : Nat) (out : List UInt8), (PRF len i out l).isSome = true → ∀ x ∈ l, 0 ≤ x ∧ x ≤ 40
  | n :: r, i, out, h, x, hx => by
    unfold PRF at h
    by_cases c : loR len i ≤ n ∧ n ≤ 40 - (out.length : Int)
    · rw [if_pos c] at h
      rcases List.mem_cons.1 hx with rfl | hx
      · have : 0 ≤ loR len i := by unfold loR; split <;> omega
        omega
      · exact PRF_range len r _ _ h x hx
    · rw [if_neg c] at h; cases h
theorem PRF_len (len : Nat) : ∀ (l : List Int) (i : Nat) (out : List UInt8), 1 ≤ i → out.length ≤ 40 → (PRF len i out l).isSome = true → l.length + out.length ≤ 40
  | [], _, out, _, ho, _ => by simpa using ho
  | n :: r, i, out, hi, ho, h => by
    unfold PRF at h
    by_cases c : loR len i ≤ n ∧ n ≤ 40 - (out.length : Int)
    · rw [if_pos c] at h
      have hl : loR len i = 1 := if_neg (fun x => by omega)
      rw [hl] at c
      have := PRF_len len r (i + 1) _ (by omega) (by rw [List.length_append, List.length_replicate]; omega) h
      rw [List.length_append, List.length_replicate] at this
      rw [List.length_cons]; omega
    · rw [if_neg c] at h; cases h
theorem PRF_len0 (l : List Int) (h : (PRF l.length 0 [] l).isSome = true) : l.length ≤ 41 := by
  cases l with
  | nil => simp
  | cons n r =>
    unfold PRF at h
    by_cases c : loR (n :: r).length 0 ≤ n ∧ n ≤ 40 - (([] : List UInt8).length : Int)
    · rw [if_pos c] at h
      have h0 : 0 ≤ loR (n :: r).length 0 := by unfold loR; split <;> omega
      rw [List.length_nil] at c
      have := PRF_len (n :: r).length r 1 _ (Nat.le_refl _) (by rw [List.length_append, List.length_replicate, List.length_nil]; omega) h
      rw [List.length_cons]; omega
    · rw [if_neg c] at h; cases h
theorem tmod2 (i : Nat) : Int.tmod (i : Int) 2 = ((i % 2 : Nat) : Int) := by
  rw [Int.tmod_eq_emod_of_nonneg (by omega)]; omega
theorem repeat1 (c : UInt8) : ∀ n : Nat, Lib.repeatL [c] n = List.replicate n c
  | 0 => rfl
  | n + 1 => by rw [Lib.repeatL, repeat1 c n]; rfl
theorem letter_ex (i : Nat) : ((⟨#[85, 68]⟩ : ByteArray).extract (i % 2) (i % 2 + 1)).data.toList = [LTR i] ∧ ((⟨#[85, 68]⟩ : ByteArray).extract (i % 2) (i % 2 + 1)).size = 1 := by
  rcases Nat.mod_two_eq_zero_or_one i with h | h
  · unfold LTR
    rw [h, if_pos rfl]
    exact ⟨rfl, rfl⟩
  · unfold LTR
    rw [h, if_neg (by omega)]
    exact ⟨rfl, rfl⟩
theorem repeat_eq (i n : Nat) (hn : n ≤ 1000) : strings_Repeat.f ((⟨#[85, 68]⟩ : ByteArray).extract (i % 2) (i % 2 + 1)) (n : Int) = some ⟨(List.replicate n (LTR i)).toArray⟩ := by
  obtain ⟨h1, h2⟩ := letter_ex i
  unfold strings_Repeat.f
  rw [if_pos ⟨by omega, by omega, by rw [h2, Int.toNat_natCast]; omega⟩, h1, Int.toNat_natCast, repeat1]
theorem mkl (l : List UInt8) : (⟨l.toArray⟩ : ByteArray).data.toList = l := by simp
theorem mk_app (l m : List UInt8) : (⟨l.toArray⟩ : ByteArray) ++ (⟨m.toArray⟩ : ByteArray) = ⟨(l ++ m).toArray⟩ := by
  have : ((⟨l.toArray⟩ : ByteArray) ++ (⟨m.toArray⟩ : ByteArray)).data = (⟨(l ++ m).toArray⟩ : ByteArray).data := by
    rw [ByteArray.data_append]; simp
  generalize ((⟨l.toArray⟩ : ByteArray) ++ (⟨m.toArray⟩ : ByteArray)) = a at this
  cases a
  simp only [ByteArray.mk.injEq]
  exact this
theorem mk_size (l : List UInt8) : (⟨l.toArray⟩ : ByteArray).size = l.length := by
  show l.toArray.size = l.length
  simp
theorem w40 (n : Nat) (h : n ≤ 40) : wrap64 (40 - (n : Int)) = 40 - (n : Int) := w64 (by omega) (by omega)
theorem implRuns_l0 (l : List Int) (hl : l.length ≤ 2000000) : ∀ (d i : Nat) (out : List UInt8), i + d = l.length → out.length ≤ 40 →
    Ev (fun k => impl_PathOfRuns.l0 k l ⟨out.toArray⟩ l (l.length : Int) (i : Int)) (match PRF l.length i out (l.drop i) with | some t => (⟨t.toArray⟩, true) | none => (⟨#[]⟩, false)) := by
  intro d
  induction d with
  | zero =>
    intro i out hi ho
    refine Ev.s ?_
    have c : ¬ ((i : Int) < (l.length : Int)) := by omega
    simp only [impl_PathOfRuns.l0, if_neg c]
    rw [List.drop_of_length_le (by omega)]
    exact Ev.now _
  | succ d ih =>
    intro i out hi ho
    have c1 : (i : Int) < (l.length : Int) := by omega
    have c2 : (0 : Int) ≤ (i : Int) := by omega
    rw [drop_rd l i (by omega), PRF]
    generalize hn : rd l (i : Int) = n
    have j2 : Ev (fun k => impl_PathOfRuns.j2 k l ⟨out.toArray⟩ (i : Int) n (loR l.length i) l (l.length : Int) (i : Int))
        (match (if loR l.length i ≤ n ∧ n ≤ 40 - (out.length : Int) then PRF l.length (i + 1) (out ++ List.replicate n.toNat (LTR i)) (l.drop (i + 1)) else none) with | some t => (⟨t.toArray⟩, true) | none => (⟨#[]⟩, false)) := by
      refine Ev.s ?_
      have q := w40 out.length ho
      simp only [impl_PathOfRuns.j2, in_eq, Option.bind_some, mk_size, q]
      by_cases g : loR l.length i ≤ n ∧ n ≤ 40 - (out.length : Int)
      · clear q
        have h0 : 0 ≤ loR l.length i := by unfold loR; split <;> omega
        obtain ⟨m, rfl⟩ := Int.eq_ofNat_of_zero_le (show 0 ≤ n from by omega)
        have e1 := tmod2 i
        have hm2 : i % 2 ≤ 1 := by omega
        have d1 : (0 : Int) ≤ ((i % 2 : Nat) : Int) := by omega
        have d2 : ((i % 2 : Nat) : Int) ≤ ((i % 2 + 1 : Nat) : Int) := by omega
        have d3 : ((i % 2 + 1 : Nat) : Int) ≤ 2 := by omega
        have d4 : out.length + m ≤ 9223372036854775807 := by omega
        have hr := repeat_eq i m (by omega)
        have hx := ih (i + 1) (out ++ List.replicate m (LTR i)) (by omega) (by rw [List.length_append, List.length_replicate]; omega)
        have e2 : wrap64 (((i % 2 : Nat) : Int) + 1) = ((i % 2 + 1 : Nat) : Int) := by rw [w64 (by omega) (by omega)]; omega
        simp only [decide_eq_true g, if_true, e1, if_pos d1, e2, if_pos d2, if_pos d3, Int.toNat_natCast, hr, Option.bind_some, mk_size, List.length_replicate, if_pos d4, mk_app, wsucc i l.length (by clear e1 e2; omega) (by clear e1 e2; omega), if_pos g]
        exact hx
      · simp only [decide_eq_false g, Bool.false_eq_true, if_false, if_neg g]
        exact Ev.now _
    refine Ev.s ?_
    simp only [impl_PathOfRuns.l0, if_pos c1, if_pos c2, hn]
    by_cases z : (i : Int) = 0
    · simp only [if_pos z]
      refine Ev.s ?_
      by_cases y : (l.length : Int) > 1
      · have e : loR l.length i = 0 := if_pos ⟨by omega, by omega⟩
        rw [e] at j2 ⊢
        simp only [impl_PathOfRuns.j1, decide_eq_true y, if_true]
        exact j2
      · have e : loR l.length i = 1 := if_neg (fun x => by omega)
        rw [e] at j2 ⊢
        simp only [impl_PathOfRuns.j1, decide_eq_false y, Bool.false_eq_true, if_false]
        exact j2
    · simp only [if_neg z]
      refine Ev.s ?_
      have e : loR l.length i = 1 := if_neg (fun x => by omega)
      rw [e] at j2 ⊢
      simp only [impl_PathOfRuns.j1, Bool.false_eq_true, if_false]
      exact j2
/-- Letters as numbers. -/
def NU (l : List UInt8) : List Int := l.map (fun c => (c.toNat : Int))
theorem NU_str (l : List UInt8) : strOfNums (NU l) = ⟨l.toArray⟩ := by
  unfold strOfNums NU
  congr 1
  rw [List.map_map]
  have : (fun n : Int => UInt8.ofNat n.toNat) ∘ (fun c : UInt8 => (c.toNat : Int)) = id := by
    funext c
    show UInt8.ofNat ((c.toNat : Int)).toNat = c
    rw [Int.toNat_natCast]
    exact UInt8.ofNat_toNat
  rw [this, List.map_id]
theorem NU_len (l : List UInt8) : (NU l).length = l.length := by unfold NU; simp
theorem LTR_flip (i : Nat) : (153 - ((LTR i).toNat : Int)) % 256 = ((LTR (i + 1)).toNat : Int) := by
  unfold LTR
  rcases Nat.mod_two_eq_zero_or_one i with h | h
  · rw [if_pos h, if_neg (by omega)]; rfl
  · rw [if_neg (by omega), if_pos (by omega)]; rfl
theorem specRuns_fill (l : List Int) (hl : l.length ≤ 41) (i : Nat) (hi : i < l.length) (R : ByteArray × Bool) : ∀ (n : Nat) (out : List UInt8), out.length + n ≤ 40 →
    Ev (fun k => spec_PathOfRuns.l0 k (NU (out ++ List.replicate n (LTR i))) ((LTR (i + 1)).toNat : Int) l (l.length : Int) ((i + 1 : Nat) : Int)) R →
    Ev (fun k => spec_PathOfRuns.l1 k (NU out) ((LTR i).toNat : Int) (n : Int) l (l.length : Int) (i : Int)) R := by
  intro n
  induction n with
  | zero =>
    intro out ho hR
    refine Ev.s ?_
    have c : ¬ (((0 : Nat) : Int) > 0) := by omega
    simp only [spec_PathOfRuns.l1, if_neg c, LTR_flip, wsucc i l.length hi (by omega)]
    rw [List.replicate_zero, List.append_nil] at hR
    exact hR
  | succ n ih =>
    intro out ho hR
    have hx := ih (out ++ [LTR i]) (by rw [List.length_append, List.length_singleton]; omega) (by rw [List.append_assoc]; exact hR)
    have c : ((n + 1 : Nat) : Int) > 0 := by omega
    have c2 : (NU out).length < 140737488355328 := by rw [NU_len]; omega
    have e : NU out ++ [((LTR i).toNat : Int)] = NU (out ++ [LTR i]) := by unfold NU; rw [List.map_append]; rfl
    have w : wrap64 (((n + 1 : Nat) : Int) - 1) = (n : Int) := by rw [w64 (by omega) (by omega)]; omega
    refine Ev.s ?_
    simp only [spec_PathOfRuns.l1, if_pos c, if_pos c2, e, w]
    exact hx
theorem specRuns_l0 (l : List Int) (hl : l.length ≤ 41) (hr : ∀ x ∈ l, 0 ≤ x ∧ x ≤ 40) (h1 : l.length = 1 → rd l 0 ≠ 0) : ∀ (d i : Nat) (out : List UInt8), i + d = l.length → out.length ≤ 40 →
    Ev (fun k => spec_PathOfRuns.l0 k (NU out) ((LTR i).toNat : Int) l (l.length : Int) (i : Int)) (match PRF l.length i out (l.drop i) with | some t => (⟨t.toArray⟩, true) | none => (⟨#[]⟩, false)) := by
  intro d
  induction d with
  | zero =>
    intro i out hi ho
    refine Ev.s ?_
    have c : ¬ ((i : Int) < (l.length : Int)) := by omega
    simp only [spec_PathOfRuns.l0, if_neg c, NU_str]
    rw [List.drop_of_length_le (by omega)]
    exact Ev.now _
  | succ d ih =>
    intro i out hi ho
    have c1 : (i : Int) < (l.length : Int) := by omega
    have c2 : (0 : Int) ≤ (i : Int) := by omega
    have hrn := hr (rd l (i : Int)) (by rw [rd_get l i (by omega)]; exact List.getElem_mem _)
    have h10 : i = 0 → l.length = 1 → rd l (i : Int) ≠ 0 := fun h h' => by rw [h]; exact h1 h'
    rw [drop_rd l i (by omega), PRF]
    generalize hn : rd l (i : Int) = n at hrn h10
    obtain ⟨m, rfl⟩ := Int.eq_ofNat_of_zero_le hrn.1
    have no : Ev (fun k => spec_PathOfRuns.j2 k (NU out) ((LTR i).toNat : Int) (m : Int) l (l.length : Int) (i : Int) true) (⟨#[]⟩, false) := by
      refine Ev.s ?_
      simp only [spec_PathOfRuns.j2, if_true]
      exact Ev.now _
    have main : loR l.length i ≤ (m : Int) → Ev (fun k => spec_PathOfRuns.j2 k (NU out) ((LTR i).toNat : Int) (m : Int) l (l.length : Int) (i : Int) (decide ((wrap64 (((NU out).length : Int) + (m : Int))) > 40)))
        (match (if loR l.length i ≤ (m : Int) ∧ (m : Int) ≤ 40 - (out.length : Int) then PRF l.length (i + 1) (out ++ List.replicate (m : Int).toNat (LTR i)) (l.drop (i + 1)) else none) with | some t => (⟨t.toArray⟩, true) | none => (⟨#[]⟩, false)) := by
      intro hlo
      by_cases g : (m : Int) ≤ 40 - (out.length : Int)
      · have hx := ih (i + 1) (out ++ List.replicate m (LTR i)) (by omega) (by rw [List.length_append, List.length_replicate]; omega)
        have hf := specRuns_fill l hl i (by omega) _ m out (by omega) hx
        have w : wrap64 (((NU out).length : Int) + (m : Int)) = ((out.length + m : Nat) : Int) := by rw [NU_len, w64 (by omega) (by omega)]; omega
        have c : ¬ (((out.length + m : Nat) : Int) > 40) := by clear w; omega
        rw [w, decide_eq_false c, if_pos ⟨hlo, g⟩, Int.toNat_natCast]
        refine Ev.s ?_
        simp only [spec_PathOfRuns.j2, Bool.false_eq_true, if_false]
        exact hf
      · have w : wrap64 (((NU out).length : Int) + (m : Int)) = ((out.length + m : Nat) : Int) := by rw [NU_len, w64 (by omega) (by omega)]; omega
        have c : ((out.length + m : Nat) : Int) > 40 := by clear w; omega
        rw [w, decide_eq_true c, if_neg (fun x => g x.2)]
        exact no
    refine Ev.s ?_
    simp only [spec_PathOfRuns.l0, if_pos c1, if_pos c2, hn]
    by_cases z : (i : Int) > 0
    · have e : loR l.length i = 1 := if_neg (fun x => by omega)
      simp only [if_pos z]
      by_cases y : (m : Int) = 0
      · simp only [if_pos y]
        rw [if_neg (fun x => by rw [e] at x; omega)]
        exact no
      · simp only [if_neg y]
        exact main (by rw [e]; omega)
    · simp only [if_neg z]
      refine main ?_
      unfold loR
      split
      · omega
      · rename_i hh
        have := h10 (by omega) (by omega)
        omega
theorem toList_eq (s : ByteArray) : s.toList = s.data.toList := ByteArray.toList_eq s
theorem FnExactPathOfRuns : laws_FnExactPathOfRuns.Pure := by
  intro l _ hl _
  have hn : l.length ≤ 35184372088832 := by omega
  refine Ev.rounds ?_
  unfold laws_FnExactPathOfRuns.f
  by_cases h : (l.length : Int) > 1048576
  · simp only [if_pos h]; exact Ev.now _
  simp only [if_neg h]
  have e2 : Ev (fun k => impl_PathOfRuns.f k l) (match PRF l.length 0 [] l with | some t => (⟨t.toArray⟩, true) | none => (⟨#[]⟩, false)) := by
    have := implRuns_l0 l (by omega) l.length 0 [] (by omega) (by simp)
    rw [List.drop_zero] at this
    exact this
  have no1 : Ev (fun k => spec_PathOfRuns.j0 k l true) ((⟨#[]⟩ : ByteArray), false) := by
    refine Ev.s ?_
    simp only [spec_PathOfRuns.j0, if_true]
    exact Ev.now _
  have none_of : ∀ hno : ¬ (PRF l.length 0 [] l).isSome = true, PRF l.length 0 [] l = none := fun hno => by
    cases hp : PRF l.length 0 [] l with
    | none => rfl
    | some t => rw [hp] at hno; exact absurd rfl hno
  have e1 : Ev (fun k => spec_PathOfRuns.f k l) (match PRF l.length 0 [] l with | some t => (⟨t.toArray⟩, true) | none => (⟨#[]⟩, false)) := by
    unfold spec_PathOfRuns.f
    by_cases c41 : (l.length : Int) > 41
    · rw [none_of (fun hs => by have := PRF_len0 l hs; omega)]
      simp only [if_pos c41]
      exact no1
    · simp only [if_neg c41]
      have rest : (l.length = 1 → rd l 0 ≠ 0) → Ev (fun k => (spec_l1All.f k l 0 40).bind fun t => spec_PathOfRuns.j0 k l (!t)) (match PRF l.length 0 [] l with | some t => (⟨t.toArray⟩, true) | none => (⟨#[]⟩, false)) := by
        intro h1
        refine Ev.bs (l1All_ev 0 40 l hn) ?_
        by_cases ha : l.all (fun x => decide (0 ≤ x ∧ x ≤ 40)) = true
        · rw [ha]
          refine Ev.s ?_
          simp only [spec_PathOfRuns.j0, Bool.not_true, Bool.false_eq_true, if_false]
          have := specRuns_l0 l (by omega) (fun x hx => of_decide_eq_true (List.all_eq_true.1 ha x hx)) h1 l.length 0 [] (by omega) (by simp)
          rw [List.drop_zero] at this
          exact this
        · rw [none_of (fun hs => ha (List.all_eq_true.2 (fun x hx => decide_eq_true (PRF_range l.length l 0 [] hs x hx)))), Bool.eq_false_iff.2 ha]
          simp only [Bool.not_false]
          exact no1
      by_cases c1 : (l.length : Int) = 1
      · have c0 : (0 : Int) < (l.length : Int) := by omega
        simp only [if_pos c1, if_pos c0]
        by_cases c2 : rd l 0 = 0
        · simp only [if_pos c2]
          have : PRF l.length 0 [] l = none := by
            cases l with
            | nil => simp at c1
            | cons n r =>
              have hn0 : n = 0 := c2
              have hr : r = [] := List.eq_nil_of_length_eq_zero (by rw [List.length_cons] at c1; omega)
              subst hr
              subst hn0
              rfl
          rw [this]
          exact no1
        · simp only [if_neg c2]
          exact rest (fun _ => c2)
      · simp only [if_neg c1]
        exact rest (fun hh => absurd hh (by omega))
  refine Ev.bs (toIntS_ev l hn) (Ev.bs e1 (Ev.bs (toIntS_ev l hn) (Ev.bs e2 ?_)))
  simp only [if_true, bne_self_eq_false]
  refine Ev.s ?_
  simp only [laws_FnExactPathOfRuns.j0, Bool.false_eq_true, if_false]
  refine Ev.bs (toIntS_ev l hn) (Ev.bs (eqIntS_ev l l hn) (Ev.c ?_))
  simp

end Go.Proofs.Ytepheolianmkbaa.Pure
