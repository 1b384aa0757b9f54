/-
  PLAIN: the pure statement of FnExactReadPath: reading a path's text by strings.Split and strconv.Atoi tells what reading it byte by byte tells.
-/
import Derived.Test.YtanlfhhliogmjaaDoorPFnExactReadPathx
import Derived.Test.YtanlfhhliogmjaaDoorPn
import Derived.Test.YtanlfhhliogmjaaDoorPs
set_option linter.unusedVariables false
set_option linter.unusedSimpArgs false
namespace Go.Proofs.YtanlfhhliogmjaaDoor.PureReadPath
open Go Go.Lib Go.RowKit Go.Proofs.YtanlfhhliogmjaaDoor.PFnExactReadPath Go.Proofs.YtanlfhhliogmjaaDoorW.PrintWords Go.Proofs.YtanlfhhliogmjaaDoorW.PrintLast Go.Proofs.YtanlfhhliogmjaaDoorW.PrintMore Go.Proofs.YtanlfhhliogmjaaDoor.Given Go.Proofs.YtanlfhhliogmjaaDoor.Plain

/-! ### lists of numbers: alike, marked, held -/
theorem eq_loop (l : List Int) (hn : l.length ≤ 1000000000000) : ∀ (d i : Nat), l.length - i = d → i ≤ l.length → Ev (fun k => laws_eqIntS.l0 k l l (i : Int)) true := by
  intro d
  induction d with
  | zero =>
    intro i hd hi
    refine Ev.step (f := fun _ => some true) (fun k => ?_) (Ev.now true)
    simp only [laws_eqIntS.l0]
    rw [if_neg (by omega)]
  | succ d ih =>
    intro i hd hi
    refine Ev.step (f := fun k => laws_eqIntS.l0 k l l ((i + 1 : Nat) : Int)) (fun k => ?_) (ih (i + 1) (by omega) (by omega))
    simp only [laws_eqIntS.l0]
    rw [if_pos (by omega), if_pos (by omega), if_pos (by omega), if_pos trivial, wrap_nat (by omega)]
theorem eq_same (l : List Int) (hn : l.length ≤ 1000000000000) : Ev (fun k => laws_eqIntS.f k l l) true := by
  refine Ev.congr (f := fun k => laws_eqIntS.l0 k l l ((0 : Nat) : Int)) (fun k => ?_) (eq_loop l hn l.length 0 rfl (by omega))
  unfold laws_eqIntS.f
  rw [if_pos rfl]
  rfl
def marks (n : Nat) : List Int := (List.range n).map fun j => ((j + 1 : Nat) : Int)
theorem marks_length (n : Nat) : (marks n).length = n := by simp [marks]
theorem marks_succ (n : Nat) : marks (n + 1) = marks n ++ [((n + 1 : Nat) : Int)] := by simp [marks, List.range_succ]
theorem mark_loop (l : List Int) (hn : l.length ≤ 1000000000000) : ∀ (d i : Nat), l.length - i = d → i ≤ l.length →
    Ev (fun k => laws_markIntS.l0 k (marks i ++ l.drop i) ((i + 1 : Nat) : Int) (i : Int)) (((l.length + 1 : Nat) : Int), marks l.length) := by
  intro d
  induction d with
  | zero =>
    intro i hd hi
    have e : i = l.length := by omega
    subst e
    refine Ev.step (f := fun _ => some (((l.length + 1 : Nat) : Int), marks l.length)) (fun k => ?_) (Ev.now _)
    simp only [laws_markIntS.l0]
    rw [if_neg (by simp [marks_length])]
    simp
  | succ d ih =>
    intro i hd hi
    have hi' : i < l.length := by omega
    refine Ev.step (f := fun k => laws_markIntS.l0 k (marks (i + 1) ++ l.drop (i + 1)) ((i + 1 + 1 : Nat) : Int) ((i + 1 : Nat) : Int)) (fun k => ?_) (ih (i + 1) (by omega) (by omega))
    simp only [laws_markIntS.l0]
    have hl : (marks i ++ l.drop i).length = l.length := by simp [marks_length]; omega
    rw [if_pos (by rw [hl]; omega), if_pos (by omega), wrap_nat (by omega), wrap_nat (by omega)]
    congr 1
    rw [Int.toNat_natCast, marks_succ, List.drop_eq_getElem_cons hi', List.set_append_right _ _ (by rw [marks_length]; exact Nat.le_refl _), marks_length, Nat.sub_self]
    simp only [List.set_cons_zero, List.append_assoc, List.singleton_append]
theorem mark_all (l : List Int) (hn : l.length ≤ 1000000000000) : Ev (fun k => laws_markIntS.f k l 1) (((l.length + 1 : Nat) : Int), marks l.length) := by
  refine Ev.congr (f := fun k => laws_markIntS.l0 k (marks 0 ++ l.drop 0) ((0 + 1 : Nat) : Int) ((0 : Nat) : Int)) (fun k => ?_) (mark_loop l hn l.length 0 rfl (by omega))
  unfold laws_markIntS.f
  rfl
theorem rd_marks (n i : Nat) (h : i < n) : rd (marks n) (i : Int) = ((i + 1 : Nat) : Int) := by
  simp [rd, marks, List.getD_eq_getElem?_getD, h]
theorem held_loop (n : Nat) (hn : n ≤ 1000000000000) : ∀ (d i : Nat), n - i = d → i ≤ n → Ev (fun k => laws_heldIntS.l0 k (marks n) ((i + 1 : Nat) : Int) (i : Int)) ((n + 1 : Nat) : Int) := by
  intro d
  induction d with
  | zero =>
    intro i hd hi
    have e : i = n := by omega
    subst e
    refine Ev.step (f := fun _ => some ((i + 1 : Nat) : Int)) (fun k => ?_) (Ev.now _)
    simp only [laws_heldIntS.l0]
    rw [if_neg (by simp [marks_length])]
  | succ d ih =>
    intro i hd hi
    refine Ev.step (f := fun k => laws_heldIntS.l0 k (marks n) ((i + 1 + 1 : Nat) : Int) ((i + 1 : Nat) : Int)) (fun k => ?_) (ih (i + 1) (by omega) (by omega))
    simp only [laws_heldIntS.l0]
    rw [if_pos (by rw [marks_length]; omega), if_pos (by omega), if_pos (rd_marks n i (by omega)), wrap_nat (by omega), wrap_nat (by omega)]
theorem held_all (n : Nat) (hn : n ≤ 1000000000000) : Ev (fun k => laws_heldIntS.f k (marks n) 1) ((n + 1 : Nat) : Int) := by
  refine Ev.congr (f := fun k => laws_heldIntS.l0 k (marks n) ((0 + 1 : Nat) : Int) ((0 : Nat) : Int)) (fun k => ?_) (held_loop n hn n 0 rfl (by omega))
  unfold laws_heldIntS.f
  rfl

/-! ### the parts of a text, byte by byte -/
theorem cut_loop (s : ByteArray) (c : UInt8) (hs : s.size ≤ 1000000) : ∀ (d i j : Nat) (out : List ByteArray), s.size - i = d → i ≤ s.size → j ≤ i → out.length ≤ i →
    ∃ r, Ev (fun k => spec_l00Cut.l0 k s (c.toNat : Int) out (j : Int) (i : Int)) r ∧ r.map (·.data.toList) = out.map (·.data.toList) ++ addHead ((s.data.toList.drop j).take (i - j)) (pcs c (s.data.toList.drop i)) := by
  intro d
  induction d with
  | zero =>
    intro i j out hd hi hj ho
    have e : i = s.size := by omega
    refine ⟨out ++ [s.extract j s.size], ?_, ?_⟩
    · refine Ev.step (f := fun _ => some (out ++ [s.extract j s.size])) (fun k => ?_) (Ev.now _)
      simp only [spec_l00Cut.l0]
      rw [if_neg (by omega), if_pos (by omega), if_pos (by omega), if_pos (by omega), Int.toNat_natCast]
    · have h0 : s.data.toList.drop i = [] := List.drop_of_length_le (by rw [e]; simp)
      rw [List.map_append, h0]
      simp only [List.map_cons, List.map_nil, extract_list, pcs, addHead, List.append_nil]
      rw [e]
  | succ d ih =>
    intro i j out hd hi hj ho
    have hi' : i < s.size := by omega
    have hil : i < s.data.toList.length := by simpa using hi'
    by_cases hc : s.data.toList[i] = c
    · obtain ⟨r, hr, hm⟩ := ih (i + 1) (i + 1) (out ++ [s.extract j i]) (by omega) (by omega) (by omega) (by simp; omega)
      refine ⟨r, ?_, ?_⟩
      · refine Ev.step (f := fun k => spec_l00Cut.l0 k s (c.toNat : Int) (out ++ [s.extract j i]) ((i + 1 : Nat) : Int) ((i + 1 : Nat) : Int)) (fun k => ?_) hr
        simp only [spec_l00Cut.l0]
        rw [if_pos (by omega), if_pos (by omega), if_pos (by rw [bt_nat s i hi', hc]), if_pos (by omega), if_pos (by omega), if_pos (by omega), if_pos (by omega), wrap_nat (by omega), Int.toNat_natCast, Int.toNat_natCast]
      · rw [hm, drop_at s i hi', hc, pcs_step_eq]
        simp only [List.map_append, List.map_cons, List.map_nil, extract_list, Nat.sub_self, List.take_zero, addHead_nil, List.append_assoc, List.singleton_append]
    · obtain ⟨r, hr, hm⟩ := ih (i + 1) j out (by omega) (by omega) (by omega) (by omega)
      refine ⟨r, ?_, ?_⟩
      · refine Ev.step (f := fun k => spec_l00Cut.l0 k s (c.toNat : Int) out (j : Int) ((i + 1 : Nat) : Int)) (fun k => ?_) hr
        simp only [spec_l00Cut.l0]
        rw [if_pos (by omega), if_pos (by omega), if_neg (by rw [bt_nat s i hi']; intro e; exact hc (UInt8.toNat_inj.1 (by omega))), wrap_nat (by omega)]
      · rw [hm, drop_at s i hi', pcs_step_ne hc]
        congr 2
        have e1 : i + 1 - j = (i - j) + 1 := by omega
        rw [e1, List.take_succ_eq_append_getElem (by simp; omega)]
        simp
        congr 1
        omega
theorem cut_all (s : ByteArray) (c : UInt8) (hs : s.size ≤ 1000000) : Ev (fun k => spec_l00Cut.f k s (c.toNat : Int)) (splitB ⟨#[c]⟩ 0 (countB s ⟨#[c]⟩) s) := by
  obtain ⟨r, hr, hm⟩ := cut_loop s c hs s.size 0 0 [] rfl (by omega) (by omega) (by simp)
  have : r = splitB ⟨#[c]⟩ 0 (countB s ⟨#[c]⟩) s := by
    apply map_data_inj
    rw [hm, splitB_pcs]
    simp [addHead_nil]
  rw [← this]
  exact hr

/-! ### a number's text, byte by byte -/
theorem digit_at {b : UInt8} (h1 : ¬ ((b.toNat : Int) < 48)) (h2 : ¬ ((b.toNat : Int) > 57)) : digitVal b = some (b.toNat - 48) := digitVal_some (by omega)
theorem pow_bound {i n : Nat} (h : i ≤ 17) (hn : n < 10 ^ i) : n < 100000000000000000 := Nat.lt_of_lt_of_le hn (Nat.pow_le_pow_right (by decide) h)
theorem pow_bound18 {i n : Nat} (h : i ≤ 18) (hn : n < 10 ^ i) : n < 1000000000000000000 := Nat.lt_of_lt_of_le hn (Nat.pow_le_pow_right (by decide) h)
theorem pow_next {i n d : Nat} (hn : n < 10 ^ i) (hd : d ≤ 9) : n * 10 + d < 10 ^ (i + 1) := by
  rw [Nat.pow_succ]
  omega
theorem wrap_sign {sg : Int} (hsg : sg = 1 ∨ sg = -1) {n : Nat} (h : n < 1000000000000000000) : wrap64 (sg * (n : Int)) = sg * (n : Int) := by
  unfold wrap64
  rcases hsg with rfl | rfl
  · rw [Int.one_mul]; omega
  · rw [Int.neg_one_mul]; omega
theorem wrap_digit {n : Nat} {b : UInt8} (h : n < 100000000000000000) (h1 : ¬ ((b.toNat : Int) < 48)) (h2 : ¬ ((b.toNat : Int) > 57)) :
    wrap64 (wrap64 (wrap64 ((n : Int) * 10) + wrap64 (b.toNat : Int)) - 48) = ((n * 10 + (b.toNat - 48) : Nat) : Int) := by
  have hb : b.toNat < 256 := UInt8.toNat_lt _
  have e1 : wrap64 ((n : Int) * 10) = (n : Int) * 10 := by unfold wrap64; omega
  have e2 : wrap64 (b.toNat : Int) = (b.toNat : Int) := by unfold wrap64; omega
  rw [e1, e2]
  have e3 : wrap64 ((n : Int) * 10 + (b.toNat : Int)) = (n : Int) * 10 + (b.toNat : Int) := by unfold wrap64; omega
  rw [e3]
  unfold wrap64
  omega
def numEnd (sg : Int) (o : Option Nat) : Int × Bool := match o with
  | some m => (sg * (m : Int), true)
  | none => (0, false)
theorem num_stop (s : ByteArray) (sg : Int) (n i : Nat) (h : ¬ i < s.size) (hw : wrap64 (sg * (n : Int)) = sg * (n : Int)) (k : Nat) : spec_l00Number.l0 (k + 1) s sg (n : Int) (i : Int) = some (sg * (n : Int), true) := by
  simp only [spec_l00Number.l0]
  rw [if_neg (by omega), hw]
theorem num_low (s : ByteArray) (sg : Int) (n i : Nat) (h : i < s.size) (h1 : bt s (i : Int) < 48) (k : Nat) : spec_l00Number.l0 (k + 1) s sg (n : Int) (i : Int) = some (0, false) := by
  simp only [spec_l00Number.l0]
  rw [if_pos (by omega), if_pos (by omega), if_pos h1]
theorem num_high (s : ByteArray) (sg : Int) (n i : Nat) (h : i < s.size) (h1 : ¬ bt s (i : Int) < 48) (h2 : bt s (i : Int) > 57) (k : Nat) : spec_l00Number.l0 (k + 1) s sg (n : Int) (i : Int) = some (0, false) := by
  simp only [spec_l00Number.l0]
  rw [if_pos (by omega), if_pos (by omega), if_neg h1, if_pos h2]
theorem num_next (s : ByteArray) (sg : Int) (n i m : Nat) (h : i < s.size) (hs : s.size ≤ 18) (h1 : ¬ bt s (i : Int) < 48) (h2 : ¬ bt s (i : Int) > 57) (hw : wrap64 (wrap64 (wrap64 ((n : Int) * 10) + wrap64 (bt s (i : Int))) - 48) = (m : Int)) (k : Nat) :
    spec_l00Number.l0 (k + 1) s sg (n : Int) (i : Int) = spec_l00Number.l0 k s sg (m : Int) ((i + 1 : Nat) : Int) := by
  simp only [spec_l00Number.l0]
  rw [if_pos (by omega), if_pos (by omega), if_neg h1, if_neg h2, wrap_nat (by omega), hw]
theorem num_loop (s : ByteArray) (sg : Int) (hsg : sg = 1 ∨ sg = -1) (hs : s.size ≤ 18) : ∀ (d i n : Nat), s.size - i = d → i ≤ s.size → n < 10 ^ i →
    Ev (fun k => spec_l00Number.l0 k s sg (n : Int) (i : Int)) (numEnd sg (decFrom n (s.data.toList.drop i))) := by
  intro d
  induction d with
  | zero =>
    intro i n hd hi hn
    have h0 : s.data.toList.drop i = [] := List.drop_of_length_le (by simp; omega)
    rw [h0]
    exact Ev.step (num_stop s sg n i (by omega) (wrap_sign hsg (pow_bound18 (by omega) hn))) (Ev.now _)
  | succ d ih =>
    intro i n hd hi hn
    have hi' : i < s.size := by omega
    have hbt := bt_nat s i hi'
    rw [drop_at s i hi']
    generalize (s.data.toList[i]'(by simpa using hi')) = b at hbt ⊢
    by_cases h1 : (b.toNat : Int) < 48
    · have : decFrom n (b :: s.data.toList.drop (i + 1)) = none := by simp only [decFrom, digitVal_none (b := b) (by omega)]
      rw [this]
      exact Ev.step (num_low s sg n i hi' (by rw [hbt]; exact h1)) (Ev.now _)
    · by_cases h2 : (b.toNat : Int) > 57
      · have : decFrom n (b :: s.data.toList.drop (i + 1)) = none := by simp only [decFrom, digitVal_none (b := b) (by omega)]
        rw [this]
        exact Ev.step (num_high s sg n i hi' (by rw [hbt]; exact h1) (by rw [hbt]; exact h2)) (Ev.now _)
      · have : decFrom n (b :: s.data.toList.drop (i + 1)) = decFrom (n * 10 + (b.toNat - 48)) (s.data.toList.drop (i + 1)) := by simp only [decFrom, digit_at h1 h2]
        rw [this]
        exact Ev.step (num_next s sg n i _ hi' hs (by rw [hbt]; exact h1) (by rw [hbt]; exact h2) (by rw [hbt]; exact wrap_digit (pow_bound (by omega) hn) h1 h2)) (ih (i + 1) _ (by omega) (by omega) (pow_next hn (by omega)))
/-- What stands behind the sign. -/
def body (sg : Int) (l : List UInt8) : Int × Bool :=
  if (decide (l.length ≤ 18) && neat l && !(decide (sg < 0) && l.head? == some 48)) = true then numEnd sg (decFrom 0 l) else (0, false)
theorem j2_yes (s : ByteArray) (sg : Int) : Ev (fun k => spec_l00Number.j2 k s sg true) (0, false) :=
  Ev.step (f := fun _ => some (0, false)) (fun k => by simp only [spec_l00Number.j2, if_true]) (Ev.now _)
theorem j2_no (s : ByteArray) (sg : Int) (hsg : sg = 1 ∨ sg = -1) (hs : s.size ≤ 18) : Ev (fun k => spec_l00Number.j2 k s sg false) (numEnd sg (decFrom 0 s.data.toList)) := by
  have h := num_loop s sg hsg hs s.size 0 0 rfl (by omega) (by decide)
  simp only [List.drop_zero] at h
  exact Ev.step (fun k => by simp only [spec_l00Number.j2]; rw [if_neg (by decide)]; rfl) h
theorem size_list (s : ByteArray) : s.data.toList.length = s.size := by simp
theorem j1_all (s : ByteArray) (sg : Int) (hsg : sg = 1 ∨ sg = -1) : Ev (fun k => spec_l00Number.j1 k s sg) (body sg s.data.toList) := by
  unfold body
  have hlen := size_list s
  by_cases h0 : s.size = 0
  · have e : s.data.toList = [] := List.eq_nil_of_length_eq_zero (by omega)
    rw [e]
    exact Ev.step (f := fun k => spec_l00Number.j2 k s sg true) (fun k => by simp only [spec_l00Number.j1]; rw [if_pos (by omega)]) (j2_yes s sg)
  · by_cases h18 : s.size > 18
    · rw [if_neg (by simp; omega)]
      exact Ev.step (f := fun k => spec_l00Number.j2 k s sg true) (fun k => by simp only [spec_l00Number.j1]; rw [if_neg (by omega), if_pos (by omega)]) (j2_yes s sg)
    · have hb : bt s 0 = ((s.data.toList[0]'(by omega)).toNat : Int) := bt_nat s 0 (by omega)
      have hl : s.data.toList = s.data.toList[0]'(by omega) :: s.data.toList.drop 1 := by
        have := drop_at s 0 (by omega)
        simpa using this
      have hh : s.data.toList.head? = some (s.data.toList[0]'(by omega)) := by rw [List.head?_eq_getElem?, List.getElem?_eq_getElem (by omega)]
      by_cases h48 : (s.data.toList[0]'(by omega)) = 48
      · have hb' : bt s 0 = 48 := by rw [hb, h48]; rfl
        by_cases h1 : s.size > 1
        · have hn : neat s.data.toList = false := by
            rw [hl, h48]
            have : (s.data.toList.drop 1).isEmpty = false := by
              cases e : s.data.toList.drop 1 with
              | nil =>
                have e2 : (s.data.toList.drop 1).length = 0 := by rw [e]; rfl
                rw [List.length_drop, hlen] at e2
                omega
              | cons _ _ => rfl
            simp only [neat, this]
            rfl
          rw [hn, if_neg (by simp)]
          exact Ev.step (f := fun k => spec_l00Number.j2 k s sg true) (fun k => by simp only [spec_l00Number.j1]; rw [if_neg (by omega), if_neg (by omega), if_pos (by omega), if_pos hb', if_pos (by omega)]) (j2_yes s sg)
        · have hn : neat s.data.toList = true := by
            rw [hl, h48]
            have : s.data.toList.drop 1 = [] := List.drop_of_length_le (by omega)
            rw [this]
            rfl
          rcases hsg with rfl | rfl
          · rw [if_pos (by rw [hn]; simp; omega)]
            refine Ev.step (f := fun k => spec_l00Number.j2 k s 1 false) (fun k => by simp only [spec_l00Number.j1]; rw [if_neg (by omega), if_neg (by omega), if_pos (by omega), if_pos hb', if_neg (by omega)]; rfl) (j2_no s 1 (.inl rfl) (by omega))
          · rw [if_neg (by rw [hh, h48]; simp)]
            refine Ev.step (f := fun k => spec_l00Number.j2 k s (-1) true) (fun k => by simp only [spec_l00Number.j1]; rw [if_neg (by omega), if_neg (by omega), if_pos (by omega), if_pos hb', if_neg (by omega)]; rfl) (j2_yes s (-1))
      · have hb' : ¬ bt s 0 = 48 := by
          rw [hb]
          intro e
          exact h48 (UInt8.toNat_inj.1 (Int.ofNat_inj.1 e))
        have hn : neat s.data.toList = true := by
          rw [hl]
          have : ((s.data.toList[0]'(by omega)) == 48) = false := by simpa using h48
          simp only [neat, this]
          rfl
        have hz : (s.data.toList.head? == some 48) = false := by rw [hh]; simpa using h48
        rw [if_pos (by rw [hn, hz]; simp; omega)]
        exact Ev.step (f := fun k => spec_l00Number.j2 k s sg false) (fun k => by simp only [spec_l00Number.j1]; rw [if_neg (by omega), if_neg (by omega), if_pos (by omega), if_neg hb']) (j2_no s sg hsg (by omega))
def numRes (l : List UInt8) : Int × Bool := match num18 l with | some v => (v, true) | none => (0, false)
theorem body_minus (r : List UInt8) : body (-1) r = numRes (45 :: r) := by
  have e : num18 (45 :: r) = if (decide (r.length ≤ 18) && neat r && !(r.head? == some 48)) = true then (decFrom 0 r).map (fun (m : Nat) => -(m : Int)) else none := by
    simp only [num18]
    rw [if_pos trivial]
  unfold body numRes
  rw [e]
  have : (decide ((-1 : Int) < 0) && r.head? == some 48) = (r.head? == some 48) := by simp
  rw [this]
  split
  · unfold numEnd
    cases decFrom 0 r with
    | none => rfl
    | some m =>
      simp only [Option.map_some]
      congr 1
      omega
  · rfl
theorem body_plus {l : List UInt8} (h : l.head? ≠ some 45) : body 1 l = numRes l := by
  unfold body numRes
  cases l with
  | nil => rfl
  | cons c r =>
    have hc : c ≠ 45 := by simpa using h
    simp only [num18]
    rw [if_neg hc]
    have : (decide ((1 : Int) < 0) && (c :: r).head? == some 48) = false := by simp
    rw [this]
    simp only [Bool.not_false, Bool.and_true]
    split
    · unfold numEnd
      cases decFrom 0 (c :: r) with
      | none => rfl
      | some m =>
        simp only [Option.map_some]
        congr 1
        omega
    · rfl
theorem spec_number (s : ByteArray) : Ev (fun k => spec_l00Number.f k s) (numRes s.data.toList) := by
  have hlen := size_list s
  unfold spec_l00Number.f
  by_cases h0 : s.size = 0
  · have e : s.data.toList = [] := List.eq_nil_of_length_eq_zero (by omega)
    refine Ev.congr (f := fun k => spec_l00Number.j0 k s 1 false) (fun k => by rw [if_neg (by omega)]) ?_
    rw [← body_plus (by rw [e]; simp)]
    exact Ev.step (f := fun k => spec_l00Number.j1 k s 1) (fun k => by simp only [spec_l00Number.j0]; rw [if_neg (by decide)]) (j1_all s 1 (.inl rfl))
  · have hb : bt s 0 = ((s.data.toList[0]'(by omega)).toNat : Int) := bt_nat s 0 (by omega)
    have hl : s.data.toList = s.data.toList[0]'(by omega) :: s.data.toList.drop 1 := by
      have := drop_at s 0 (by omega)
      simpa using this
    by_cases h45 : (s.data.toList[0]'(by omega)) = 45
    · have hb' : (bt s 0 == 45) = true := by rw [hb, h45]; rfl
      refine Ev.congr (f := fun k => spec_l00Number.j0 k s 1 true) (fun k => by rw [if_pos (by omega), if_pos (by omega), hb']) ?_
      have := j1_all (s.extract 1 s.size) (-1) (.inr rfl)
      have e2 : (s.extract 1 s.size).data.toList = s.data.toList.drop 1 := by rw [extract_list, List.take_of_length_le (by simp)]
      rw [e2, body_minus, ← h45, ← hl] at this
      exact Ev.step (f := fun k => spec_l00Number.j1 k (s.extract 1 s.size) (-1)) (fun k => by simp only [spec_l00Number.j0, if_true]; rw [if_pos (by omega)]) this
    · have hb' : (bt s 0 == 45) = false := by
        rw [hb]
        simp only [beq_eq_false_iff_ne]
        intro e
        exact h45 (UInt8.toNat_inj.1 (Int.ofNat_inj.1 e))
      refine Ev.congr (f := fun k => spec_l00Number.j0 k s 1 false) (fun k => by rw [if_pos (by omega), if_pos (by omega), hb']) ?_
      rw [← body_plus (by rw [hl]; simpa using h45)]
      exact Ev.step (f := fun k => spec_l00Number.j1 k s 1) (fun k => by simp only [spec_l00Number.j0]; rw [if_neg (by decide)]) (j1_all s 1 (.inl rfl))
/-- And by strconv's own words. -/
theorem impl_number_is (s : ByteArray) (hs : s.size ≤ 1000000) : ∃ v, impl_number.f s = some (v, (num18 s.data.toList).isSome) ∧ ∀ x, num18 s.data.toList = some x → v = x := by
  unfold impl_number.f
  rw [if_pos (by omega)]
  have e : s.toList = s.data.toList := Go.Lib.toList_data s
  refine ⟨atoiV s.data.toList, ?_, ?_⟩
  · congr 2
    cases hn : num18 s.data.toList with
    | some x =>
      obtain ⟨h1, h2, h3⟩ := nums_ok hn
      have hv : atoiV s.data.toList = x := by unfold atoiV; rw [h1]
      have ho : atoiOk s.data.toList = true := by unfold atoiOk; rw [h1]
      rw [hv, ho, h2, e]
      simpa using h3
    | none =>
      simp only [Option.isSome_none]
      cases hb : (atoiOk s.data.toList && (itoa (atoiV s.data.toList) == s.toList && decide ((trimPrefix s.data.toList [45]).length ≤ 18))) with
      | false => rfl
      | true =>
        simp only [Bool.and_eq_true, decide_eq_true_eq, beq_iff_eq] at hb
        rw [e] at hb
        rw [ok_nums hb.2.1 hb.2.2] at hn
        cases hn
  · intro x hx
    obtain ⟨h1, h2, h3⟩ := nums_ok hx
    unfold atoiV
    rw [h1]

/-! ### paths -/
def pathB (l : List Int) : Bool := decide (l.length ≤ 10) && !(l.any badStep)
theorem pathok_loop (l : List Int) (hn : l.length ≤ 1000000000000) : ∀ (d i : Nat), l.length - i = d → i ≤ l.length → Ev (fun k => spec_l12PathOK.l0 k l (i : Int)) (!((l.drop i).any badStep)) := by
  intro d
  induction d with
  | zero =>
    intro i hd hi
    rw [List.drop_of_length_le (by omega)]
    refine Ev.step (f := fun _ => some true) (fun k => ?_) (Ev.now true)
    simp only [spec_l12PathOK.l0]
    rw [if_neg (by omega)]
  | succ d ih =>
    intro i hd hi
    have hi' : i < l.length := by omega
    have hr : rd l (i : Int) = l[i] := by simp [rd, List.getD_eq_getElem?_getD, hi']
    rw [List.drop_eq_getElem_cons hi', List.any_cons]
    have hin : spec_l01In.f (rd l (i : Int)) 0 60 = some (!badStep l[i]) := by
      unfold spec_l01In.f badStep
      rw [hr]
      by_cases h0 : l[i] ≥ 0
      · rw [if_pos h0]; simp; intro h; omega
      · rw [if_neg h0]; simp; omega
    cases hb : badStep l[i] with
    | true =>
      simp only [Bool.true_or, Bool.not_true]
      refine Ev.step (f := fun _ => some false) (fun k => ?_) (Ev.now false)
      simp only [spec_l12PathOK.l0]
      rw [if_pos (by omega), if_pos (by omega), hin, hb]
      rfl
    | false =>
      simp only [Bool.false_or]
      refine Ev.step (f := fun k => spec_l12PathOK.l0 k l ((i + 1 : Nat) : Int)) (fun k => ?_) (ih (i + 1) (by omega) (by omega))
      simp only [spec_l12PathOK.l0]
      rw [if_pos (by omega), if_pos (by omega), hin, hb, wrap_nat (by omega)]
      rfl
theorem pathok_all (l : List Int) (hn : l.length ≤ 1000000000000) : Ev (fun k => spec_l12PathOK.f k l) (pathB l) := by
  unfold spec_l12PathOK.f pathB
  by_cases h : l.length ≤ 10
  · have := pathok_loop l hn l.length 0 rfl (by omega)
    simp only [List.drop_zero] at this
    refine Ev.congr (f := fun k => spec_l12PathOK.l0 k l ((0 : Nat) : Int)) (fun k => by rw [if_neg (by omega)]; rfl) ?_
    simpa [h] using this
  · refine Ev.congr (f := fun _ => some false) (fun k => by rw [if_pos (by omega)]) ?_
    simpa [h] using Ev.now false
def specR (acc : List Int) : List ByteArray → List Int × Bool
  | [] => (acc, pathB acc)
  | w :: r => match num18 w.data.toList with
    | some v => if v < 0 then ([], false) else specR (acc ++ [v]) r
    | none => ([], false)
def implR (acc : List Int) : List ByteArray → List Int × Bool
  | [] => (acc, pathB acc)
  | w :: r => match num18 w.data.toList with
    | some v => implR (acc ++ [v]) r
    | none => ([], false)
theorem implR_bad : ∀ (ws : List ByteArray) (acc : List Int), acc.any badStep = true → (implR acc ws).2 = false
  | [], acc, h => by simp [implR, pathB, h]
  | w :: r, acc, h => by
    unfold implR
    cases num18 w.data.toList with
    | none => rfl
    | some v => exact implR_bad r _ (by simp [List.any_append, h])
def told (p : List Int × Bool) : List Int × Int := if p.2 = true then (p.1, 0) else ([], 3)
theorem same_told : ∀ (ws : List ByteArray) (acc : List Int), told (implR acc ws) = told (specR acc ws)
  | [], acc => rfl
  | w :: r, acc => by
    unfold implR specR
    cases num18 w.data.toList with
    | none => rfl
    | some v =>
      simp only
      by_cases hv : v < 0
      · rw [if_pos hv]
        have hb : badStep v = true := by unfold badStep; simp; omega
        have := implR_bad r (acc ++ [v]) (by simp [List.any_append, hb])
        unfold told
        rw [this]
        rfl
      · rw [if_neg hv]
        exact same_told r _
theorem rdOf_at (ws : List ByteArray) (i : Nat) (h : i < ws.length) : rdOf ByteArray.empty ws (i : Int) = ws[i] := by simp [rdOf, List.getD_eq_getElem?_getD, h]
theorem spec_loop (ws : List ByteArray) (hn : ws.length ≤ 1000000) : ∀ (d i : Nat) (acc : List Int), ws.length - i = d → i ≤ ws.length → acc.length ≤ i →
    Ev (fun k => spec_l12ReadPath.l0 k ws acc (i : Int)) (specR acc (ws.drop i)) := by
  intro d
  induction d with
  | zero =>
    intro i acc hd hi ha
    rw [List.drop_of_length_le (by omega)]
    refine Ev.step (f := fun k => (spec_l12PathOK.f k acc).bind fun t => some (acc, t)) (fun k => ?_) (Ev.bind (pathok_all acc (by omega)) (Ev.now _))
    simp only [spec_l12ReadPath.l0]
    rw [if_neg (by omega)]
  | succ d ih =>
    intro i acc hd hi ha
    have hi' : i < ws.length := by omega
    rw [List.drop_eq_getElem_cons hi']
    have hnum := spec_number ws[i]
    unfold specR
    unfold numRes at hnum
    cases hv : num18 ws[i].data.toList with
    | none =>
      rw [hv] at hnum
      refine Ev.step (f := fun k => (spec_l00Number.f k ws[i]).bind fun t => if t.2 = true then (if t.1 < 0 then some (([] : List Int), false) else (if acc.length < 17592186044416 then spec_l12ReadPath.l0 k ws (acc ++ [t.1]) (wrap64 ((i : Int) + 1)) else none)) else some (([] : List Int), false)) (fun k => ?_) (Ev.bind hnum (Ev.now _))
      simp only [spec_l12ReadPath.l0]
      rw [if_pos (by omega), if_pos (by omega), rdOf_at ws i hi']
    | some v =>
      rw [hv] at hnum
      simp only at hnum ⊢
      by_cases h0 : v < 0
      · rw [if_pos h0]
        refine Ev.step (f := fun k => (spec_l00Number.f k ws[i]).bind fun t => if t.2 = true then (if t.1 < 0 then some (([] : List Int), false) else (if acc.length < 17592186044416 then spec_l12ReadPath.l0 k ws (acc ++ [t.1]) (wrap64 ((i : Int) + 1)) else none)) else some (([] : List Int), false)) (fun k => ?_) (Ev.bind hnum (Ev.congr (fun k => by rw [if_pos rfl, if_pos h0]) (Ev.now _)))
        simp only [spec_l12ReadPath.l0]
        rw [if_pos (by omega), if_pos (by omega), rdOf_at ws i hi']
      · rw [if_neg h0]
        refine Ev.step (f := fun k => (spec_l00Number.f k ws[i]).bind fun t => if t.2 = true then (if t.1 < 0 then some (([] : List Int), false) else (if acc.length < 17592186044416 then spec_l12ReadPath.l0 k ws (acc ++ [t.1]) (wrap64 ((i : Int) + 1)) else none)) else some (([] : List Int), false)) (fun k => ?_) (Ev.bind hnum (Ev.congr (fun k => by rw [if_pos rfl, if_neg h0, if_pos (by omega), wrap_nat (by omega)]) (ih (i + 1) (acc ++ [v]) (by omega) (by omega) (by simp; omega))))
        simp only [spec_l12ReadPath.l0]
        rw [if_pos (by omega), if_pos (by omega), rdOf_at ws i hi']
theorem impl_loop (ws : List ByteArray) (hn : ws.length ≤ 1000000) (hw : ∀ w ∈ ws, w.size ≤ 1000000) : ∀ (d i : Nat) (acc : List Int), ws.length - i = d → i ≤ ws.length → acc.length ≤ i →
    Ev (fun k => impl_readPath.l0 k acc ws (ws.length : Int) (i : Int)) (implR acc (ws.drop i)) := by
  intro d
  induction d with
  | zero =>
    intro i acc hd hi ha
    rw [List.drop_of_length_le (by omega)]
    refine Ev.step (f := fun k => (impl_isPath.f acc).bind fun t => some (acc, t)) (fun k => ?_) (Ev.now _)
    simp only [impl_readPath.l0]
    rw [if_neg (by omega)]
  | succ d ih =>
    intro i acc hd hi ha
    have hi' : i < ws.length := by omega
    rw [List.drop_eq_getElem_cons hi']
    obtain ⟨x, hx, hxv⟩ := impl_number_is ws[i] (hw _ (List.getElem_mem _))
    unfold implR
    cases hv : num18 ws[i].data.toList with
    | none =>
      rw [hv] at hx
      refine Ev.step (f := fun _ => some (([] : List Int), false)) (fun k => ?_) (Ev.now _)
      simp only [impl_readPath.l0]
      rw [if_pos (by omega), if_pos (by omega), if_pos (by omega), rdOf_at ws i hi', hx]
      rfl
    | some v =>
      rw [hv] at hx
      obtain rfl := hxv v hv
      refine Ev.step (f := fun k => impl_readPath.l0 k (acc ++ [x]) ws (ws.length : Int) ((i + 1 : Nat) : Int)) (fun k => ?_) (ih (i + 1) (acc ++ [x]) (by omega) (by omega) (by simp; omega))
      simp only [impl_readPath.l0]
      rw [if_pos (by omega), if_pos (by omega), if_pos (by omega), rdOf_at ws i hi', hx]
      simp only [Option.bind_some, Option.isSome_some, if_true]
      rw [if_pos (by omega), wrap_nat (by omega)]

theorem told_length (p : List Int × Bool) (h : p.2 = true → p.1.length ≤ 10) : (told p).1.length ≤ 10 := by
  unfold told
  split
  · exact h (by assumption)
  · simp
theorem specR_length : ∀ (ws : List ByteArray) (acc : List Int), (specR acc ws).2 = true → (specR acc ws).1.length ≤ 10
  | [], acc, h => by
    have h' : pathB acc = true := h
    unfold pathB at h'
    simp only [Bool.and_eq_true, decide_eq_true_eq] at h'
    exact h'.1
  | w :: r, acc, h => by
    unfold specR at h ⊢
    cases hv : num18 w.data.toList with
    | none => rw [hv] at h; cases h
    | some v =>
      rw [hv] at h
      simp only at h ⊢
      by_cases h0 : v < 0
      · rw [if_pos h0] at h; cases h
      · rw [if_neg h0] at h ⊢
        exact specR_length r _ h
/-- The words of a text, and what a path's text means. -/
def ws (s : ByteArray) : List ByteArray := splitB ⟨#[46]⟩ 0 (countB s ⟨#[46]⟩) s
def pathR (s : ByteArray) : List Int × Int := if s.size > 65536 then ([], 2) else if s.toList = [45] then ([], 0) else told (specR [] (ws s))
theorem ws_length (s : ByteArray) : (ws s).length ≤ s.size + 1 := by
  have h := splitB_length_le ⟨#[46]⟩ 0 (countB s ⟨#[46]⟩) s
  have h2 := countB_le1 s ⟨#[46]⟩ (by decide)
  unfold ws
  omega
theorem splitB_sizes (sep : ByteArray) : ∀ (k : Nat) (s : ByteArray), ∀ w ∈ splitB sep 0 k s, w.size ≤ s.size
  | 0, s, w, h => by
    rw [splitB_zero] at h
    rw [List.mem_singleton.1 h]
    exact Nat.le_refl _
  | k + 1, s, w, h => by
    unfold splitB at h
    split at h
    · rw [List.mem_singleton.1 h]
      exact Nat.le_refl _
    · rcases List.mem_cons.1 h with rfl | h
      · rw [ByteArray.size_extract]; omega
      · have := splitB_sizes sep k _ w h
        rw [ByteArray.size_extract] at this
        omega
theorem spec_path (s : ByteArray) : Ev (fun k => spec_ReadPath.f k s) (pathR s) := by
  unfold spec_ReadPath.f pathR
  by_cases hs : s.size > 65536
  · rw [if_pos hs]
    exact Ev.congr (f := fun _ => some (([] : List Int), (2 : Int))) (fun k => by rw [if_pos (by omega)]) (Ev.now _)
  · rw [if_neg hs]
    by_cases hd : s.toList = [45]
    · rw [if_pos hd]
      refine Ev.congr (f := fun k => (spec_l12ReadPath.f k s).bind fun t => if t.2 = true then some (t.1, 0) else some (([] : List Int), 3)) (fun k => by rw [if_neg (by omega)]) ?_
      refine Ev.bind (a := (([] : List Int), true)) (Ev.congr (fun k => by unfold spec_l12ReadPath.f; rw [if_pos hd]) (Ev.now _)) (Ev.now _)
    · rw [if_neg hd]
      refine Ev.congr (f := fun k => (spec_l12ReadPath.f k s).bind fun t => if t.2 = true then some (t.1, 0) else some (([] : List Int), 3)) (fun k => by rw [if_neg (by omega)]) ?_
      have hl := ws_length s
      have h1 := spec_loop (ws s) (by omega) (ws s).length 0 [] rfl (by omega) (by simp)
      have h2 : Ev (fun k => spec_l12ReadPath.f k s) (specR [] (ws s)) := by
        unfold spec_l12ReadPath.f
        refine Ev.congr (f := fun k => (spec_l00Cut.f k s 46).bind fun t => spec_l12ReadPath.l0 k t [] 0) (fun k => by rw [if_neg hd]) ?_
        exact Ev.bind (cut_all s 46 (by omega)) h1
      refine Ev.bind h2 ?_
      unfold told
      split
      · rename_i h
        exact Ev.now _
      · rename_i h
        exact Ev.now _
theorem impl_path (s : ByteArray) : Ev (fun k => impl_ReadPath.f k s) (pathR s) := by
  have hlong : impl_isLong.f [s] = some (decide (65536 < s.size)) := by simp [impl_isLong.f, longS]
  unfold impl_ReadPath.f pathR
  by_cases hs : s.size > 65536
  · rw [if_pos hs]
    exact Ev.congr (f := fun _ => some (([] : List Int), (2 : Int))) (fun k => by rw [hlong]; simp [hs]) (Ev.now _)
  · rw [if_neg hs]
    have e0 : ∀ k, ((impl_isLong.f [s]).bind fun t => if t = true then some (([] : List Int), (2 : Int)) else ((impl_readPath.f k s).bind fun t => if t.2 = true then some (t.1, 0) else some (([] : List Int), 3))) = ((impl_readPath.f k s).bind fun t => if t.2 = true then some (t.1, 0) else some (([] : List Int), 3)) := fun k => by
      rw [hlong]
      simp only [Option.bind_some]
      rw [if_neg (by simpa using hs)]
    by_cases hd : s.toList = [45]
    · rw [if_pos hd]
      refine Ev.congr e0 ?_
      refine Ev.bind (a := (([] : List Int), true)) (Ev.congr (fun k => by unfold impl_readPath.f; simp only [Option.bind_some]; rw [if_pos hd]) (Ev.now _)) (Ev.now _)
    · rw [if_neg hd]
      refine Ev.congr e0 ?_
      have hl := ws_length s
      have h1 := impl_loop (ws s) (by omega) (fun w hw => Nat.le_trans (splitB_sizes _ _ _ w hw) (by omega)) (ws s).length 0 [] rfl (by omega) (by simp)
      have hsp : strings_Split.f s ⟨#[46]⟩ = some (ws s) := by
        unfold strings_Split.f
        rw [if_pos ⟨rfl, by omega⟩]
        rfl
      have h2 : Ev (fun k => impl_readPath.f k s) (implR [] (ws s)) := by
        unfold impl_readPath.f
        refine Ev.congr (f := fun k => impl_readPath.l0 k [] (ws s) ((ws s).length : Int) 0) (fun k => by simp only [Option.bind_some]; rw [if_neg hd, hsp]; rfl) h1
      rw [← same_told]
      refine Ev.bind h2 ?_
      unfold told
      split
      · rename_i h
        exact Ev.now _
      · rename_i h
        exact Ev.now _
theorem pathR_length (s : ByteArray) : (pathR s).1.length ≤ 10 := by
  unfold pathR
  split
  · simp
  · split
    · simp
    · exact told_length _ (specR_length _ _)
theorem ReadPath : laws_FnExactReadPath.Pure := by
  intro s hn
  apply Ev.rounds (g := fun k => laws_FnExactReadPath.f k s)
  unfold laws_FnExactReadPath.f
  by_cases hs : (s.size : Int) > 1048576
  · exact Ev.congr (f := fun _ => some true) (fun k => by rw [if_pos hs]) (Ev.now _)
  · refine Ev.congr (fun k => by rw [if_neg hs]) ?_
    have hr := pathR_length s
    rcases hp : pathR s with ⟨l, c⟩
    have h1 := spec_path s
    have h2 := impl_path s
    rw [hp] at h1 h2 hr
    have hl : l.length ≤ 1000000000000 := by simp only at hr; omega
    have heq := eq_same l hl
    have hmark := mark_all l hl
    have hheld := held_all l.length hl
    refine Ev.bind h1 (Ev.bind h2 (Ev.bind heq ?_))
    simp only [if_true]
    have hne : (c != c) = false := by simp
    rw [hne]
    refine Ev.step (f := fun k => (laws_markIntS.f k l 1).bind fun bt178 => ((laws_heldIntS.f k bt178.2 1).bind fun t180 => (if t180 < 0 then (some false) else (if t180 = bt178.1 then ((impl_ReadPath.f k s).bind fun bt181 => ((laws_eqIntS.f k bt181.1 l).bind fun t185 => (if t185 = true then (laws_FnExactReadPath.j1 k bt178.2 bt178.1 (bt181.2 != c)) else (laws_FnExactReadPath.j1 k bt178.2 bt178.1 true)))) else (some false))))) (fun k => by simp only [laws_FnExactReadPath.j0]; rw [if_neg (by decide)]) ?_
    refine Ev.bind hmark (Ev.bind hheld ?_)
    refine Ev.congr (fun k => by rw [if_neg (by omega), if_pos rfl]) ?_
    refine Ev.bind h2 (Ev.bind heq ?_)
    simp only [if_true]
    rw [hne]
    refine Ev.step (f := fun k => (laws_heldIntS.f k (marks l.length) 1).bind fun t186 => (if t186 < 0 then (some false) else (if t186 = ((l.length + 1 : Nat) : Int) then (some true) else (some false)))) (fun k => by simp only [laws_FnExactReadPath.j1]; rw [if_neg (by decide)]) ?_
    refine Ev.bind hheld ?_
    exact Ev.congr (f := fun _ => some true) (fun k => by rw [if_neg (by omega), if_pos rfl]) (Ev.now _)
end Go.Proofs.YtanlfhhliogmjaaDoor.PureReadPath
