/-
  WRITTEN BY wip/tools/prune.py out of this claim's texts: the declarations that the theorem comes to, and no others. In it: PRClx, Pn, Ps, Pq, Pt, Pr, Pu.
-/
import Derived.Lib.AtoiTie
import Derived.Lib.ItoaNum
import Derived.Lib.Strings
import Derived.Lib.SplitLaws
import Derived.Lib.IndexBytes
import Derived.Lib.CutLaws
import Derived.Test.YtfjnlliilnmfaaaGreatDoorC13
section
namespace Go.Proofs.YtfjnlliilnmfaaaGreatDoor.PRCl
open Go.Proofs.YtfjnlliilnmfaaaGreatDoor.Given
open Go.Proofs.YtfjnlliilnmfaaaGreatDoor.RC
open Go.Proofs.YtfjnlliilnmfaaaGreatDoor.RF
open Go.RowKit Go.Proofs.YtfjnlliilnmfaaaGreatDoorW.PrintWords Go.Proofs.YtfjnlliilnmfaaaGreatDoorW.PrintLast Go.Proofs.YtfjnlliilnmfaaaGreatDoorW.PrintMore
attribute [local go_sem] max2_int min2_int max_two min_two max_three min_three max_four min_four
set_option linter.unusedVariables false
set_option linter.unusedSimpArgs false
end Go.Proofs.YtfjnlliilnmfaaaGreatDoor.PRCl
end
section
set_option linter.unusedVariables false
set_option linter.unusedSimpArgs false
namespace Go.Proofs.YtfjnlliilnmfaaaGreatDoor.Plain
open Go.Lib
theorem digitVal_some {b : UInt8} (h : 48 ≤ b.toNat ∧ b.toNat ≤ 57) : digitVal b = some (b.toNat - 48) := by simp [digitVal, h]
theorem digitVal_none {b : UInt8} (h : ¬ (48 ≤ b.toNat ∧ b.toNat ≤ 57)) : digitVal b = none := by simp only [digitVal]; rw [if_neg h]
theorem decFrom_snoc : ∀ (l : List UInt8) (acc : Nat) (b : UInt8), decFrom acc (l ++ [b]) = (decFrom acc l).bind fun n => (digitVal b).map fun d => n * 10 + d
 | [], acc, b => by
  simp only [List.nil_append, decFrom, Option.bind_some]
  cases digitVal b <;> rfl
 | a :: t, acc, b => by
  simp only [List.cons_append, decFrom]
  cases digitVal a with
  | none => rfl
  | some d => exact decFrom_snoc t _ b
def neat (l : List UInt8) : Bool := match l with
 | [] => false
 | c :: r => !(c == 48) || r.isEmpty
theorem decFrom_ge : ∀ (l : List UInt8) (acc m : Nat), decFrom acc l = some m → acc ≤ m
 | [], acc, m, h => by simp only [decFrom, Option.some.injEq] at h; omega
 | a :: t, acc, m, h => by
  simp only [decFrom] at h
  cases hd : digitVal a with
  | none => simp [hd] at h
  | some d =>
   simp only [hd] at h
   have := decFrom_ge t _ m h
   omega
theorem decFrom_pos {c : UInt8} {r : List UInt8} {m : Nat} (hc : c ≠ 48) (h : decFrom 0 (c :: r) = some m) : 1 ≤ m := by
 simp only [decFrom] at h
 cases hd : digitVal c with
 | none => simp [hd] at h
 | some d =>
  simp only [hd] at h
  have h1 := decFrom_ge r _ m h
  have h2 := digitVal_eq hd
  have h3 : c.toNat ≠ 48 := fun e => hc (by apply UInt8.toNat_inj.1; simpa using e)
  omega
theorem digit_back {b : UInt8} {d : Nat} (h : digitVal b = some d) : UInt8.ofNat (48 + d) = b := by
 have h1 := digitVal_eq h
 apply UInt8.toNat_inj.1
 have : b.toNat < 256 := b.toNat_lt
 simp [UInt8.toNat_ofNat]
 omega
theorem digits_of : ∀ (n : Nat) (l : List UInt8) (m : Nat), l.length = n → neat l = true → decFrom 0 l = some m → decDigits m = l := by
 intro n
 induction n with
 | zero =>
  intro l m hl hn h
  have : l = [] := List.eq_nil_of_length_eq_zero hl
  subst this
  cases hn
 | succ n ih =>
  intro l m hl hn h
  obtain ⟨t, b, rfl⟩ : ∃ t b, l = t ++ [b] := ⟨l.dropLast, l.getLast (by intro e; rw [e] at hl; cases hl), (List.dropLast_concat_getLast _).symm⟩
  rw [decFrom_snoc] at h
  obtain ⟨m', hm', h⟩ := Option.bind_eq_some_iff.1 h
  obtain ⟨d, hd, rfl⟩ := Option.map_eq_some_iff.1 h
  have hd9 := digitVal_eq hd
  cases t with
  | nil =>
   simp only [decFrom, Option.some.injEq] at hm'
   subst hm'
   rw [decDigits, dif_pos (by omega)]
   simp only [Nat.zero_mul, Nat.zero_add, List.nil_append]
   rw [digit_back hd]
  | cons c r =>
   have hc : c ≠ 48 := by
    intro e
    subst e
    simp [neat] at hn
   have hp := decFrom_pos hc hm'
   have hneat : neat (c :: r) = true := by
    have : (c == 48) = false := by simpa using hc
    simp [neat, this]
   have := ih (c :: r) m' (by simpa using hl) hneat hm'
   rw [decDigits, dif_neg (by omega)]
   have e1 : (m' * 10 + d) / 10 = m' := by omega
   have e2 : (m' * 10 + d) % 10 = d := by omega
   rw [e1, e2, this, digit_back hd]
theorem digit_of_small {d : Nat} (h : d < 10) : digitVal (UInt8.ofNat (48 + d)) = some d := by
 have : (UInt8.ofNat (48 + d)).toNat = 48 + d := by simp [UInt8.toNat_ofNat]; omega
 rw [digitVal_some (by omega), this]
 congr 1
 omega
theorem decDigits_step {u : Nat} (h : ¬ u < 10) : decDigits u = decDigits (u / 10) ++ [UInt8.ofNat (48 + u % 10)] := by rw [decDigits, dif_neg h]
theorem decDigits_base {u : Nat} (h : u < 10) : decDigits u = [UInt8.ofNat (48 + u)] := by rw [decDigits, dif_pos h]
theorem read_digits (u : Nat) : decFrom 0 (decDigits u) = some u := by
 induction u using Nat.strongRecOn with
 | _ u ih =>
  by_cases h : u < 10
  ·rw [decDigits_base h]
   simp only [decFrom, digit_of_small h, Nat.zero_mul, Nat.zero_add]
  ·rw [decDigits_step h, decFrom_snoc, ih (u / 10) (by omega), digit_of_small (by omega)]
   simp only [Option.bind_some, Option.map_some, Option.some.injEq]
   omega
theorem head_digits (u : Nat) (h1 : 1 ≤ u) : ∃ c r, decDigits u = c :: r ∧ c ≠ 48 ∧ 48 ≤ c.toNat ∧ c.toNat ≤ 57 := by
 induction u using Nat.strongRecOn with
 | _ u ih =>
  by_cases h : u < 10
  ·have e : (UInt8.ofNat (48 + u)).toNat = 48 + u := by simp [UInt8.toNat_ofNat]; omega
   refine ⟨_, [], decDigits_base h, ?_, by omega, by omega⟩
   intro e2
   rw [e2] at e
   simp at e
   omega
  ·obtain ⟨c, r, e, h2⟩ := ih (u / 10) (by omega) (by omega)
   exact ⟨c, r ++ [UInt8.ofNat (48 + u % 10)], by rw [decDigits_step h, e]; rfl, h2⟩
theorem neat_digits (u : Nat) : neat (decDigits u) = true := by
 rcases Nat.eq_zero_or_pos u with rfl | h
 ·rw [decDigits_base (by decide)]; rfl
 ·obtain ⟨c, r, e, h2, _⟩ := head_digits u h
  rw [e]
  have : (c == 48) = false := by simpa using h2
  simp [neat, this]
theorem head_digit (u : Nat) : ∃ c r, decDigits u = c :: r ∧ 48 ≤ c.toNat ∧ c.toNat ≤ 57 := by
 rcases Nat.eq_zero_or_pos u with rfl | h
 ·exact ⟨48, [], by rw [decDigits_base (by decide)]; rfl, by decide, by decide⟩
 ·obtain ⟨c, r, e, _, h2⟩ := head_digits u h
  exact ⟨c, r, e, h2⟩
def num18 : List UInt8 → Option Int
 | [] => none
 | c :: r =>
  if c = 45 then (if (decide (r.length ≤ 18) && neat r && !(r.head? == some 48)) = true then (decFrom 0 r).map (fun (m : Nat) => -(m : Int)) else none)
  else if (decide ((c :: r).length ≤ 18) && neat (c :: r)) = true then (decFrom 0 (c :: r)).map (fun (m : Nat) => (m : Int)) else none
theorem nums_ok {l : List UInt8} {v : Int} (h : num18 l = some v) : atoiAll l = .ok v ∧ itoa v = l ∧ (trimPrefix l [45]).length ≤ 18 := by
 cases l with
 | nil => cases h
 | cons c r =>
  simp only [num18] at h
  by_cases hc : c = 45
  ·subst hc
   rw [if_pos rfl] at h
   split at h
   ·rename_i hh
    simp only [Bool.and_eq_true, decide_eq_true_eq, Bool.not_eq_true'] at hh
    obtain ⟨⟨hl, hn⟩, hz⟩ := hh
    obtain ⟨m, hm, rfl⟩ := Option.map_eq_some_iff.1 h
    have hr : r ≠ [] := by rintro rfl; cases hn
    have hd : decNat r = some m := by
     unfold decNat
     cases r with
     | nil => exact absurd rfl hr
     | cons a b => simpa using hm
    have hp : 1 ≤ m := by
     cases r with
     | nil => exact absurd rfl hr
     | cons a b => exact decFrom_pos (fun e => by rw [e] at hz; simp at hz) hm
    refine ⟨?_, ?_, ?_⟩
    ·rw [atoiAll_minus, signed_short hl, hd]
     rfl
    ·unfold itoa
     rw [if_pos (by omega)]
     have : (-(m : Int)).natAbs = m := by omega
     rw [this, digits_of r.length r m rfl hn hm]
    ·simpa [trimPrefix, hasPrefix, List.isPrefixOf] using hl
   ·cases h
  ·rw [if_neg hc] at h
   split at h
   ·rename_i hh
    simp only [Bool.and_eq_true, decide_eq_true_eq] at hh
    obtain ⟨hl, hn⟩ := hh
    obtain ⟨m, hm, rfl⟩ := Option.map_eq_some_iff.1 h
    have hdig : 48 ≤ c.toNat ∧ c.toNat ≤ 57 := by
     obtain ⟨d, hd⟩ := digit_of_decFrom (c :: r) 0 m hm 0 c rfl
     have := digitVal_eq hd
     omega
    have hd : decNat (c :: r) = some m := by simpa [decNat] using hm
    refine ⟨?_, ?_, ?_⟩
    ·rw [atoiAll_plain c r (by omega) (by omega), signless_short hl, hd]
     rfl
    ·unfold itoa
     rw [if_neg (by omega), Int.toNat_natCast, digits_of (c :: r).length (c :: r) m rfl hn hm]
    ·have : (45 == c) = false := by simpa using fun e : 45 = c => hc e.symm
     simpa [trimPrefix, hasPrefix, List.isPrefixOf, this] using hl
   ·cases h
theorem ok_nums {l : List UInt8} {v : Int} (hi : itoa v = l) (ht : (trimPrefix l [45]).length ≤ 18) : num18 l = some v := by
 subst hi
 unfold itoa at ht ⊢
 by_cases hv : v < 0
 ·rw [if_pos hv] at ht ⊢
  have hm : 1 ≤ v.natAbs := by omega
  obtain ⟨c, r, e, h1, h2, h3⟩ := head_digits v.natAbs hm
  have hl : (decDigits v.natAbs).length ≤ 18 := by simpa [trimPrefix, hasPrefix, List.isPrefixOf] using ht
  have hz : ((decDigits v.natAbs).head? == some 48) = false := by rw [e]; simpa using h1
  simp only [num18, if_true]
  rw [if_pos (by simp [hl, neat_digits, hz]), read_digits]
  simp only [Option.map_some, Option.some.injEq]
  omega
 ·rw [if_neg hv] at ht ⊢
  obtain ⟨c, r, e, h2, h3⟩ := head_digit v.toNat
  have hc : c ≠ 45 := by rintro rfl; simp at h2
  have hcb : (45 == c) = false := by simpa using fun e : 45 = c => hc e.symm
  have hl : (decDigits v.toNat).length ≤ 18 := by
   have ht' := ht
   rw [e] at ht' ⊢
   simpa [trimPrefix, hasPrefix, List.isPrefixOf, hcb] using ht'
  have hn := neat_digits v.toNat
  have hd := read_digits v.toNat
  rw [e] at hl hn hd ⊢
  simp only [num18]
  rw [if_neg hc, if_pos (by simp [hn]; simpa using hl), hd]
  simp only [Option.map_some, Option.some.injEq]
  omega
end Go.Proofs.YtfjnlliilnmfaaaGreatDoor.Plain
end
section
set_option linter.unusedVariables false
set_option linter.unusedSimpArgs false
namespace Go.Proofs.YtfjnlliilnmfaaaGreatDoor.Plain
open Go Go.Lib Go.Proofs.YtfjnlliilnmfaaaGreatDoorW.PrintWords Go.RowKit
def pcs (c : UInt8) : List UInt8 → List (List UInt8)
 | [] => [[]]
 | b :: r => if b = c then [] :: pcs c r else match pcs c r with
  | [] => [[b]]
  | p :: q => (b :: p) :: q
theorem pcs_ne (c : UInt8) : ∀ l, pcs c l ≠ []
 | [] => by simp [pcs]
 | b :: r => by
  unfold pcs
  split
  ·simp
  ·split <;> simp
theorem index_one_eq (c : UInt8) (l : List UInt8) : index (c :: l) [c] = 0 := by rw [index]; simp [List.isPrefixOf]
theorem index_one_ne {b c : UInt8} (h : b ≠ c) (l : List UInt8) : index (b :: l) [c] = if index l [c] == -1 then -1 else index l [c] + 1 := by
 have hp : ([c] : List UInt8).isPrefixOf (b :: l) = false := by simp [List.isPrefixOf, Ne.symm h]
 rw [index, hp]
 simp
theorem index_pos {c : UInt8} : ∀ {l : List UInt8}, l.count c ≠ 0 → 0 ≤ index l [c]
 | [], h => by simp at h
 | b :: l, h => by
  by_cases hb : b = c
  ·subst hb; rw [index_one_eq]; exact Int.le_refl _
  ·rw [index_one_ne hb]
   have := index_pos (c := c) (l := l) (by simpa [List.count_cons, hb] using h)
   rw [if_neg (by simp; omega)]
   omega
theorem splitK_pcs (c : UInt8) : ∀ l : List UInt8, splitK [c] 0 (l.count c) l = pcs c l
 | [] => rfl
 | b :: l => by
  have ih := splitK_pcs c l
  by_cases hb : b = c
  ·subst hb
   rw [List.count_cons_self, splitK, index_one_eq, if_neg (by decide)]
   simp only [pcs, if_true]
   rw [← ih]
   rfl
  ·have hcount : (b :: l).count c = l.count c := by simp [List.count_cons, hb]
   rw [hcount]
   simp only [pcs, hb, if_false]
   rw [← ih]
   rcases Nat.eq_zero_or_pos (l.count c) with h0 | h0
   ·rw [h0]
    simp [splitK]
   ·obtain ⟨k, hk⟩ : ∃ k, l.count c = k + 1 := ⟨l.count c - 1, by omega⟩
    have hix := index_pos (c := c) (l := l) (by omega)
    rw [hk]
    simp only [splitK]
    have e1 : index (b :: l) [c] = index l [c] + 1 := by
     rw [index_one_ne hb, if_neg (by simp; omega)]
    rw [e1, if_neg (by simp; omega), if_neg (by simp; omega)]
    obtain ⟨i, hi⟩ : ∃ i : Nat, index l [c] = i := ⟨(index l [c]).toNat, by omega⟩
    rw [hi]
    have e2 : ((i : Int) + 1).toNat = i + 1 := by omega
    rw [e2]
    simp
theorem splitB_pcs (s : ByteArray) (c : UInt8) : (splitB ⟨#[c]⟩ 0 (countB s ⟨#[c]⟩) s).map (·.data.toList) = pcs c s.data.toList := by
 rw [splitB_data, ← splitK_pcs]
 have : countB s ⟨#[c]⟩ = s.data.toList.count c := count_one c s.data.toList
 rw [this]
theorem data_inj {a b : ByteArray} (h : a.data.toList = b.data.toList) : a = b := by
 cases a with
 | mk da => cases b with
  | mk db =>
   have : da = db := Array.toList_inj.1 h
   rw [this]
theorem map_data_inj {a b : List ByteArray} (h : a.map (·.data.toList) = b.map (·.data.toList)) : a = b := (List.map_inj_right (fun _ _ e => data_inj e)).1 h
def addHead (p : List UInt8) : List (List UInt8) → List (List UInt8)
 | [] => []
 | q :: r => (p ++ q) :: r
theorem addHead_nil : ∀ l, addHead [] l = l
 | [] => rfl
 | _ :: _ => rfl
theorem pcs_step_eq (c : UInt8) (p r : List UInt8) : addHead p (pcs c (c :: r)) = p :: pcs c r := by simp [pcs, addHead]
theorem pcs_step_ne {b c : UInt8} (h : b ≠ c) (p r : List UInt8) : addHead p (pcs c (b :: r)) = addHead (p ++ [b]) (pcs c r) := by
 simp only [pcs, h, if_false]
 cases e : pcs c r with
 | nil => exact absurd e (pcs_ne c r)
 | cons q t => simp [addHead]
theorem wrap_nat {i : Nat} (h : i + 1 < 9223372036854775808) : wrap64 ((i : Int) + 1) = ((i + 1 : Nat) : Int) := by
 unfold wrap64
 omega
theorem bt_nat (s : ByteArray) (i : Nat) (h : i < s.size) : bt s (i : Int) = ((s.data.toList[i]'(by simpa using h)).toNat : Int) := by
 unfold bt
 rw [dif_pos (by simpa using h)]
 rfl
theorem drop_at (s : ByteArray) (i : Nat) (h : i < s.size) : s.data.toList.drop i = (s.data.toList[i]'(by simpa using h)) :: s.data.toList.drop (i + 1) := List.drop_eq_getElem_cons _
theorem extract_list (s : ByteArray) (a b : Nat) : (s.extract a b).data.toList = (s.data.toList.drop a).take (b - a) := by
 rw [ByteArray.data_extract, Array.toList_extract, List.extract_eq_drop_take', List.drop_take]
end Go.Proofs.YtfjnlliilnmfaaaGreatDoor.Plain
end
section
set_option linter.unusedVariables false
set_option linter.unusedSimpArgs false
namespace Go.Proofs.YtfjnlliilnmfaaaGreatDoor.PureNum
open Go Go.Lib Go.RowKit Go.Proofs.YtfjnlliilnmfaaaGreatDoor.PRCa Go.Proofs.YtfjnlliilnmfaaaGreatDoorW.PrintWords Go.Proofs.YtfjnlliilnmfaaaGreatDoorW.PrintLast Go.Proofs.YtfjnlliilnmfaaaGreatDoorW.PrintMore Go.Proofs.YtfjnlliilnmfaaaGreatDoor.Given Go.Proofs.YtfjnlliilnmfaaaGreatDoor.Plain
theorem cut_loop (s : ByteArray) (c : UInt8) (hs : s.size ≤ 1000000) : ∀ (d i j : Nat) (out : List ByteArray), s.size - i = d → i ≤ s.size → j ≤ i → out.length ≤ i →
  ∃ r, Ev (fun k => spec_l00Cut.l0 k s (c.toNat : Int) out (j : Int) (i : Int)) r ∧ r.map (·.data.toList) = out.map (·.data.toList) ++ addHead ((s.data.toList.drop j).take (i - j)) (pcs c (s.data.toList.drop i)) := by
 intro d
 induction d with
 | zero =>
  intro i j out hd hi hj ho
  have e : i = s.size := by omega
  refine ⟨out ++ [s.extract j s.size], ?_, ?_⟩
  ·refine Ev.step (f := fun _ => some (out ++ [s.extract j s.size])) (fun k => ?_) (Ev.now _)
   simp only [spec_l00Cut.l0]
   rw [if_neg (by omega), if_pos (by omega), if_pos (by omega), if_pos (by omega), Int.toNat_natCast]
  ·have h0 : s.data.toList.drop i = [] := List.drop_of_length_le (by rw [e]; simp)
   rw [List.map_append, h0]
   simp only [List.map_cons, List.map_nil, extract_list, pcs, addHead, List.append_nil]
   rw [e]
 | succ d ih =>
  intro i j out hd hi hj ho
  have hi' : i < s.size := by omega
  have hil : i < s.data.toList.length := by simpa using hi'
  by_cases hc : s.data.toList[i] = c
  ·obtain ⟨r, hr, hm⟩ := ih (i + 1) (i + 1) (out ++ [s.extract j i]) (by omega) (by omega) (by omega) (by simp; omega)
   refine ⟨r, ?_, ?_⟩
   ·refine Ev.step (f := fun k => spec_l00Cut.l0 k s (c.toNat : Int) (out ++ [s.extract j i]) ((i + 1 : Nat) : Int) ((i + 1 : Nat) : Int)) (fun k => ?_) hr
    simp only [spec_l00Cut.l0]
    rw [if_pos (by omega), if_pos (by omega), if_pos (by rw [bt_nat s i hi', hc]), if_pos (by omega), if_pos (by omega), if_pos (by omega), if_pos (by omega), wrap_nat (by omega), Int.toNat_natCast, Int.toNat_natCast]
   ·rw [hm, drop_at s i hi', hc, pcs_step_eq]
    simp only [List.map_append, List.map_cons, List.map_nil, extract_list, Nat.sub_self, List.take_zero, addHead_nil, List.append_assoc, List.singleton_append]
  ·obtain ⟨r, hr, hm⟩ := ih (i + 1) j out (by omega) (by omega) (by omega) (by omega)
   refine ⟨r, ?_, ?_⟩
   ·refine Ev.step (f := fun k => spec_l00Cut.l0 k s (c.toNat : Int) out (j : Int) ((i + 1 : Nat) : Int)) (fun k => ?_) hr
    simp only [spec_l00Cut.l0]
    rw [if_pos (by omega), if_pos (by omega), if_neg (by rw [bt_nat s i hi']; intro e; exact hc (UInt8.toNat_inj.1 (by omega))), wrap_nat (by omega)]
   ·rw [hm, drop_at s i hi', pcs_step_ne hc]
    congr 2
    have e1 : i + 1 - j = (i - j) + 1 := by omega
    rw [e1, List.take_succ_eq_append_getElem (by simp; omega)]
    simp
    congr 1
    omega
theorem cut_all (s : ByteArray) (c : UInt8) (hs : s.size ≤ 1000000) : Ev (fun k => spec_l00Cut.f k s (c.toNat : Int)) (splitB ⟨#[c]⟩ 0 (countB s ⟨#[c]⟩) s) := by
 obtain ⟨r, hr, hm⟩ := cut_loop s c hs s.size 0 0 [] rfl (by omega) (by omega) (by simp)
 have : r = splitB ⟨#[c]⟩ 0 (countB s ⟨#[c]⟩) s := by
  apply map_data_inj
  rw [hm, splitB_pcs]
  simp [addHead_nil]
 rw [← this]
 exact hr
theorem digit_at {b : UInt8} (h1 : ¬ ((b.toNat : Int) < 48)) (h2 : ¬ ((b.toNat : Int) > 57)) : digitVal b = some (b.toNat - 48) := digitVal_some (by omega)
theorem pow_bound {i n : Nat} (h : i ≤ 17) (hn : n < 10 ^ i) : n < 100000000000000000 := Nat.lt_of_lt_of_le hn (Nat.pow_le_pow_right (by decide) h)
theorem pow_bound18 {i n : Nat} (h : i ≤ 18) (hn : n < 10 ^ i) : n < 1000000000000000000 := Nat.lt_of_lt_of_le hn (Nat.pow_le_pow_right (by decide) h)
theorem pow_next {i n d : Nat} (hn : n < 10 ^ i) (hd : d ≤ 9) : n * 10 + d < 10 ^ (i + 1) := by
 rw [Nat.pow_succ]
 omega
theorem wrap_sign {sg : Int} (hsg : sg = 1 ∨ sg = -1) {n : Nat} (h : n < 1000000000000000000) : wrap64 (sg * (n : Int)) = sg * (n : Int) := by
 unfold wrap64
 rcases hsg with rfl | rfl
 ·rw [Int.one_mul]; omega
 ·rw [Int.neg_one_mul]; omega
theorem wrap_digit {n : Nat} {b : UInt8} (h : n < 100000000000000000) (h1 : ¬ ((b.toNat : Int) < 48)) (h2 : ¬ ((b.toNat : Int) > 57)) :
  wrap64 (wrap64 (wrap64 ((n : Int) * 10) + wrap64 (b.toNat : Int)) - 48) = ((n * 10 + (b.toNat - 48) : Nat) : Int) := by
 have hb : b.toNat < 256 := UInt8.toNat_lt _
 have e1 : wrap64 ((n : Int) * 10) = (n : Int) * 10 := by unfold wrap64; omega
 have e2 : wrap64 (b.toNat : Int) = (b.toNat : Int) := by unfold wrap64; omega
 rw [e1, e2]
 have e3 : wrap64 ((n : Int) * 10 + (b.toNat : Int)) = (n : Int) * 10 + (b.toNat : Int) := by unfold wrap64; omega
 rw [e3]
 unfold wrap64
 omega
def numEnd (sg : Int) (o : Option Nat) : Int × Bool := match o with
 | some m => (sg * (m : Int), true)
 | none => (0, false)
theorem num_stop (s : ByteArray) (sg : Int) (n i : Nat) (h : ¬ i < s.size) (hw : wrap64 (sg * (n : Int)) = sg * (n : Int)) (k : Nat) : spec_l00Number.l0 (k + 1) s sg (n : Int) (i : Int) = some (sg * (n : Int), true) := by
 simp only [spec_l00Number.l0]
 rw [if_neg (by omega), hw]
theorem num_low (s : ByteArray) (sg : Int) (n i : Nat) (h : i < s.size) (h1 : bt s (i : Int) < 48) (k : Nat) : spec_l00Number.l0 (k + 1) s sg (n : Int) (i : Int) = some (0, false) := by
 simp only [spec_l00Number.l0]
 rw [if_pos (by omega), if_pos (by omega), if_pos h1]
theorem num_high (s : ByteArray) (sg : Int) (n i : Nat) (h : i < s.size) (h1 : ¬ bt s (i : Int) < 48) (h2 : bt s (i : Int) > 57) (k : Nat) : spec_l00Number.l0 (k + 1) s sg (n : Int) (i : Int) = some (0, false) := by
 simp only [spec_l00Number.l0]
 rw [if_pos (by omega), if_pos (by omega), if_neg h1, if_pos h2]
theorem num_next (s : ByteArray) (sg : Int) (n i m : Nat) (h : i < s.size) (hs : s.size ≤ 18) (h1 : ¬ bt s (i : Int) < 48) (h2 : ¬ bt s (i : Int) > 57) (hw : wrap64 (wrap64 (wrap64 ((n : Int) * 10) + wrap64 (bt s (i : Int))) - 48) = (m : Int)) (k : Nat) :
  spec_l00Number.l0 (k + 1) s sg (n : Int) (i : Int) = spec_l00Number.l0 k s sg (m : Int) ((i + 1 : Nat) : Int) := by
 simp only [spec_l00Number.l0]
 rw [if_pos (by omega), if_pos (by omega), if_neg h1, if_neg h2, wrap_nat (by omega), hw]
theorem num_loop (s : ByteArray) (sg : Int) (hsg : sg = 1 ∨ sg = -1) (hs : s.size ≤ 18) : ∀ (d i n : Nat), s.size - i = d → i ≤ s.size → n < 10 ^ i →
  Ev (fun k => spec_l00Number.l0 k s sg (n : Int) (i : Int)) (numEnd sg (decFrom n (s.data.toList.drop i))) := by
 intro d
 induction d with
 | zero =>
  intro i n hd hi hn
  have h0 : s.data.toList.drop i = [] := List.drop_of_length_le (by simp; omega)
  rw [h0]
  exact Ev.step (num_stop s sg n i (by omega) (wrap_sign hsg (pow_bound18 (by omega) hn))) (Ev.now _)
 | succ d ih =>
  intro i n hd hi hn
  have hi' : i < s.size := by omega
  have hbt := bt_nat s i hi'
  rw [drop_at s i hi']
  generalize (s.data.toList[i]'(by simpa using hi')) = b at hbt ⊢
  by_cases h1 : (b.toNat : Int) < 48
  ·have : decFrom n (b :: s.data.toList.drop (i + 1)) = none := by simp only [decFrom, digitVal_none (b := b) (by omega)]
   rw [this]
   exact Ev.step (num_low s sg n i hi' (by rw [hbt]; exact h1)) (Ev.now _)
  ·by_cases h2 : (b.toNat : Int) > 57
   ·have : decFrom n (b :: s.data.toList.drop (i + 1)) = none := by simp only [decFrom, digitVal_none (b := b) (by omega)]
    rw [this]
    exact Ev.step (num_high s sg n i hi' (by rw [hbt]; exact h1) (by rw [hbt]; exact h2)) (Ev.now _)
   ·have : decFrom n (b :: s.data.toList.drop (i + 1)) = decFrom (n * 10 + (b.toNat - 48)) (s.data.toList.drop (i + 1)) := by simp only [decFrom, digit_at h1 h2]
    rw [this]
    exact Ev.step (num_next s sg n i _ hi' hs (by rw [hbt]; exact h1) (by rw [hbt]; exact h2) (by rw [hbt]; exact wrap_digit (pow_bound (by omega) hn) h1 h2)) (ih (i + 1) _ (by omega) (by omega) (pow_next hn (by omega)))
def body (sg : Int) (l : List UInt8) : Int × Bool :=
 if (decide (l.length ≤ 18) && neat l && !(decide (sg < 0) && l.head? == some 48)) = true then numEnd sg (decFrom 0 l) else (0, false)
theorem j2_yes (s : ByteArray) (sg : Int) : Ev (fun k => spec_l00Number.j2 k s sg true) (0, false) :=
 Ev.step (f := fun _ => some (0, false)) (fun k => by simp only [spec_l00Number.j2, if_true]) (Ev.now _)
theorem j2_no (s : ByteArray) (sg : Int) (hsg : sg = 1 ∨ sg = -1) (hs : s.size ≤ 18) : Ev (fun k => spec_l00Number.j2 k s sg false) (numEnd sg (decFrom 0 s.data.toList)) := by
 have h := num_loop s sg hsg hs s.size 0 0 rfl (by omega) (by decide)
 simp only [List.drop_zero] at h
 exact Ev.step (fun k => by simp only [spec_l00Number.j2]; rw [if_neg (by decide)]; rfl) h
theorem size_list (s : ByteArray) : s.data.toList.length = s.size := by simp
theorem j1_all (s : ByteArray) (sg : Int) (hsg : sg = 1 ∨ sg = -1) : Ev (fun k => spec_l00Number.j1 k s sg) (body sg s.data.toList) := by
 unfold body
 have hlen := size_list s
 by_cases h0 : s.size = 0
 ·have e : s.data.toList = [] := List.eq_nil_of_length_eq_zero (by omega)
  rw [e]
  exact Ev.step (f := fun k => spec_l00Number.j2 k s sg true) (fun k => by simp only [spec_l00Number.j1]; rw [if_pos (by omega)]) (j2_yes s sg)
 ·by_cases h18 : s.size > 18
  ·rw [if_neg (by simp; omega)]
   exact Ev.step (f := fun k => spec_l00Number.j2 k s sg true) (fun k => by simp only [spec_l00Number.j1]; rw [if_neg (by omega), if_pos (by omega)]) (j2_yes s sg)
  ·have hb : bt s 0 = ((s.data.toList[0]'(by omega)).toNat : Int) := bt_nat s 0 (by omega)
   have hl : s.data.toList = s.data.toList[0]'(by omega) :: s.data.toList.drop 1 := by
    have := drop_at s 0 (by omega)
    simpa using this
   have hh : s.data.toList.head? = some (s.data.toList[0]'(by omega)) := by rw [List.head?_eq_getElem?, List.getElem?_eq_getElem (by omega)]
   by_cases h48 : (s.data.toList[0]'(by omega)) = 48
   ·have hb' : bt s 0 = 48 := by rw [hb, h48]; rfl
    by_cases h1 : s.size > 1
    ·have hn : neat s.data.toList = false := by
      rw [hl, h48]
      have : (s.data.toList.drop 1).isEmpty = false := by
       cases e : s.data.toList.drop 1 with
       | nil =>
        have e2 : (s.data.toList.drop 1).length = 0 := by rw [e]; rfl
        rw [List.length_drop, hlen] at e2
        omega
       | cons _ _ => rfl
      simp only [neat, this]
      rfl
     rw [hn, if_neg (by simp)]
     exact Ev.step (f := fun k => spec_l00Number.j2 k s sg true) (fun k => by simp only [spec_l00Number.j1]; rw [if_neg (by omega), if_neg (by omega), if_pos (by omega), if_pos hb', if_pos (by omega)]) (j2_yes s sg)
    ·have hn : neat s.data.toList = true := by
      rw [hl, h48]
      have : s.data.toList.drop 1 = [] := List.drop_of_length_le (by omega)
      rw [this]
      rfl
     rcases hsg with rfl | rfl
     ·rw [if_pos (by rw [hn]; simp; omega)]
      refine Ev.step (f := fun k => spec_l00Number.j2 k s 1 false) (fun k => by simp only [spec_l00Number.j1]; rw [if_neg (by omega), if_neg (by omega), if_pos (by omega), if_pos hb', if_neg (by omega)]; rfl) (j2_no s 1 (.inl rfl) (by omega))
     ·rw [if_neg (by rw [hh, h48]; simp)]
      refine Ev.step (f := fun k => spec_l00Number.j2 k s (-1) true) (fun k => by simp only [spec_l00Number.j1]; rw [if_neg (by omega), if_neg (by omega), if_pos (by omega), if_pos hb', if_neg (by omega)]; rfl) (j2_yes s (-1))
   ·have hb' : ¬ bt s 0 = 48 := by
     rw [hb]
     intro e
     exact h48 (UInt8.toNat_inj.1 (Int.ofNat_inj.1 e))
    have hn : neat s.data.toList = true := by
     rw [hl]
     have : ((s.data.toList[0]'(by omega)) == 48) = false := by simpa using h48
     simp only [neat, this]
     rfl
    have hz : (s.data.toList.head? == some 48) = false := by rw [hh]; simpa using h48
    rw [if_pos (by rw [hn, hz]; simp; omega)]
    exact Ev.step (f := fun k => spec_l00Number.j2 k s sg false) (fun k => by simp only [spec_l00Number.j1]; rw [if_neg (by omega), if_neg (by omega), if_pos (by omega), if_neg hb']) (j2_no s sg hsg (by omega))
def numRes (l : List UInt8) : Int × Bool := match num18 l with | some v => (v, true) | none => (0, false)
theorem body_minus (r : List UInt8) : body (-1) r = numRes (45 :: r) := by
 have e : num18 (45 :: r) = if (decide (r.length ≤ 18) && neat r && !(r.head? == some 48)) = true then (decFrom 0 r).map (fun (m : Nat) => -(m : Int)) else none := by
  simp only [num18]
  rw [if_pos trivial]
 unfold body numRes
 rw [e]
 have : (decide ((-1 : Int) < 0) && r.head? == some 48) = (r.head? == some 48) := by simp
 rw [this]
 split
 ·unfold numEnd
  cases decFrom 0 r with
  | none => rfl
  | some m =>
   simp only [Option.map_some]
   congr 1
   omega
 ·rfl
theorem body_plus {l : List UInt8} (h : l.head? ≠ some 45) : body 1 l = numRes l := by
 unfold body numRes
 cases l with
 | nil => rfl
 | cons c r =>
  have hc : c ≠ 45 := by simpa using h
  simp only [num18]
  rw [if_neg hc]
  have : (decide ((1 : Int) < 0) && (c :: r).head? == some 48) = false := by simp
  rw [this]
  simp only [Bool.not_false, Bool.and_true]
  split
  ·unfold numEnd
   cases decFrom 0 (c :: r) with
   | none => rfl
   | some m =>
    simp only [Option.map_some]
    congr 1
    omega
  ·rfl
theorem spec_number (s : ByteArray) : Ev (fun k => spec_l00Number.f k s) (numRes s.data.toList) := by
 have hlen := size_list s
 unfold spec_l00Number.f
 by_cases h0 : s.size = 0
 ·have e : s.data.toList = [] := List.eq_nil_of_length_eq_zero (by omega)
  refine Ev.congr (f := fun k => spec_l00Number.j0 k s 1 false) (fun k => by rw [if_neg (by omega)]) ?_
  rw [← body_plus (by rw [e]; simp)]
  exact Ev.step (f := fun k => spec_l00Number.j1 k s 1) (fun k => by simp only [spec_l00Number.j0]; rw [if_neg (by decide)]) (j1_all s 1 (.inl rfl))
 ·have hb : bt s 0 = ((s.data.toList[0]'(by omega)).toNat : Int) := bt_nat s 0 (by omega)
  have hl : s.data.toList = s.data.toList[0]'(by omega) :: s.data.toList.drop 1 := by
   have := drop_at s 0 (by omega)
   simpa using this
  by_cases h45 : (s.data.toList[0]'(by omega)) = 45
  ·have hb' : (bt s 0 == 45) = true := by rw [hb, h45]; rfl
   refine Ev.congr (f := fun k => spec_l00Number.j0 k s 1 true) (fun k => by rw [if_pos (by omega), if_pos (by omega), hb']) ?_
   have := j1_all (s.extract 1 s.size) (-1) (.inr rfl)
   have e2 : (s.extract 1 s.size).data.toList = s.data.toList.drop 1 := by rw [extract_list, List.take_of_length_le (by simp)]
   rw [e2, body_minus, ← h45, ← hl] at this
   exact Ev.step (f := fun k => spec_l00Number.j1 k (s.extract 1 s.size) (-1)) (fun k => by simp only [spec_l00Number.j0, if_true]; rw [if_pos (by omega)]) this
  ·have hb' : (bt s 0 == 45) = false := by
    rw [hb]
    simp only [beq_eq_false_iff_ne]
    intro e
    exact h45 (UInt8.toNat_inj.1 (Int.ofNat_inj.1 e))
   refine Ev.congr (f := fun k => spec_l00Number.j0 k s 1 false) (fun k => by rw [if_pos (by omega), if_pos (by omega), hb']) ?_
   rw [← body_plus (by rw [hl]; simpa using h45)]
   exact Ev.step (f := fun k => spec_l00Number.j1 k s 1) (fun k => by simp only [spec_l00Number.j0]; rw [if_neg (by decide)]) (j1_all s 1 (.inl rfl))
theorem impl_number_is (s : ByteArray) (hs : s.size ≤ 1000000) : ∃ v, impl_number.f s = some (v, (num18 s.data.toList).isSome) ∧ ∀ x, num18 s.data.toList = some x → v = x := by
 unfold impl_number.f
 rw [if_pos (by omega)]
 have e : s.toList = s.data.toList := Go.Lib.toList_data s
 refine ⟨atoiV s.data.toList, ?_, ?_⟩
 ·congr 2
  cases hn : num18 s.data.toList with
  | some x =>
   obtain ⟨h1, h2, h3⟩ := nums_ok hn
   have hv : atoiV s.data.toList = x := by unfold atoiV; rw [h1]
   have ho : atoiOk s.data.toList = true := by unfold atoiOk; rw [h1]
   rw [hv, ho, h2, e]
   simpa using h3
  | none =>
   simp only [Option.isSome_none]
   cases hb : (atoiOk s.data.toList && (itoa (atoiV s.data.toList) == s.toList && decide ((trimPrefix s.data.toList [45]).length ≤ 18))) with
   | false => rfl
   | true =>
    simp only [Bool.and_eq_true, decide_eq_true_eq, beq_iff_eq] at hb
    rw [e] at hb
    rw [ok_nums hb.2.1 hb.2.2] at hn
    cases hn
 ·intro x hx
  obtain ⟨h1, h2, h3⟩ := nums_ok hx
  unfold atoiV
  rw [h1]
def pathB (l : List Int) : Bool := decide (l.length ≤ 10) && !(l.any badStep)
theorem pathok_loop (l : List Int) (hn : l.length ≤ 1000000000000) : ∀ (d i : Nat), l.length - i = d → i ≤ l.length → Ev (fun k => spec_l12PathOK.l0 k l (i : Int)) (!((l.drop i).any badStep)) := by
 intro d
 induction d with
 | zero =>
  intro i hd hi
  rw [List.drop_of_length_le (by omega)]
  refine Ev.step (f := fun _ => some true) (fun k => ?_) (Ev.now true)
  simp only [spec_l12PathOK.l0]
  rw [if_neg (by omega)]
 | succ d ih =>
  intro i hd hi
  have hi' : i < l.length := by omega
  have hr : rd l (i : Int) = l[i] := by simp [rd, List.getD_eq_getElem?_getD, hi']
  rw [List.drop_eq_getElem_cons hi', List.any_cons]
  have hin : spec_l01In.f (rd l (i : Int)) 0 60 = some (!badStep l[i]) := by
   unfold spec_l01In.f badStep
   rw [hr]
   by_cases h0 : l[i] ≥ 0
   ·rw [if_pos h0]; simp; intro h; omega
   ·rw [if_neg h0]; simp; omega
  cases hb : badStep l[i] with
  | true =>
   simp only [Bool.true_or, Bool.not_true]
   refine Ev.step (f := fun _ => some false) (fun k => ?_) (Ev.now false)
   simp only [spec_l12PathOK.l0]
   rw [if_pos (by omega), if_pos (by omega), hin, hb]
   rfl
  | false =>
   simp only [Bool.false_or]
   refine Ev.step (f := fun k => spec_l12PathOK.l0 k l ((i + 1 : Nat) : Int)) (fun k => ?_) (ih (i + 1) (by omega) (by omega))
   simp only [spec_l12PathOK.l0]
   rw [if_pos (by omega), if_pos (by omega), hin, hb, wrap_nat (by omega)]
   rfl
theorem pathok_all (l : List Int) (hn : l.length ≤ 1000000000000) : Ev (fun k => spec_l12PathOK.f k l) (pathB l) := by
 unfold spec_l12PathOK.f pathB
 by_cases h : l.length ≤ 10
 ·have := pathok_loop l hn l.length 0 rfl (by omega)
  simp only [List.drop_zero] at this
  refine Ev.congr (f := fun k => spec_l12PathOK.l0 k l ((0 : Nat) : Int)) (fun k => by rw [if_neg (by omega)]; rfl) ?_
  simpa [h] using this
 ·refine Ev.congr (f := fun _ => some false) (fun k => by rw [if_pos (by omega)]) ?_
  simpa [h] using Ev.now false
def specR (acc : List Int) : List ByteArray → List Int × Bool
 | [] => (acc, pathB acc)
 | w :: r => match num18 w.data.toList with
  | some v => if v < 0 then ([], false) else specR (acc ++ [v]) r
  | none => ([], false)
def implR (acc : List Int) : List ByteArray → List Int × Bool
 | [] => (acc, pathB acc)
 | w :: r => match num18 w.data.toList with
  | some v => implR (acc ++ [v]) r
  | none => ([], false)
theorem implR_bad : ∀ (ws : List ByteArray) (acc : List Int), acc.any badStep = true → (implR acc ws).2 = false
 | [], acc, h => by simp [implR, pathB, h]
 | w :: r, acc, h => by
  unfold implR
  cases num18 w.data.toList with
  | none => rfl
  | some v => exact implR_bad r _ (by simp [List.any_append, h])
def told (p : List Int × Bool) : List Int × Int := if p.2 = true then (p.1, 0) else ([], 3)
theorem same_told : ∀ (ws : List ByteArray) (acc : List Int), told (implR acc ws) = told (specR acc ws)
 | [], acc => rfl
 | w :: r, acc => by
  unfold implR specR
  cases num18 w.data.toList with
  | none => rfl
  | some v =>
   simp only
   by_cases hv : v < 0
   ·rw [if_pos hv]
    have hb : badStep v = true := by unfold badStep; simp; omega
    have := implR_bad r (acc ++ [v]) (by simp [List.any_append, hb])
    unfold told
    rw [this]
    rfl
   ·rw [if_neg hv]
    exact same_told r _
theorem rdOf_at (ws : List ByteArray) (i : Nat) (h : i < ws.length) : rdOf ByteArray.empty ws (i : Int) = ws[i] := by simp [rdOf, List.getD_eq_getElem?_getD, h]
theorem spec_loop (ws : List ByteArray) (hn : ws.length ≤ 1000000) : ∀ (d i : Nat) (acc : List Int), ws.length - i = d → i ≤ ws.length → acc.length ≤ i →
  Ev (fun k => spec_l12ReadPath.l0 k ws acc (i : Int)) (specR acc (ws.drop i)) := by
 intro d
 induction d with
 | zero =>
  intro i acc hd hi ha
  rw [List.drop_of_length_le (by omega)]
  refine Ev.step (f := fun k => (spec_l12PathOK.f k acc).bind fun t => some (acc, t)) (fun k => ?_) (Ev.bind (pathok_all acc (by omega)) (Ev.now _))
  simp only [spec_l12ReadPath.l0]
  rw [if_neg (by omega)]
 | succ d ih =>
  intro i acc hd hi ha
  have hi' : i < ws.length := by omega
  rw [List.drop_eq_getElem_cons hi']
  have hnum := spec_number ws[i]
  unfold specR
  unfold numRes at hnum
  cases hv : num18 ws[i].data.toList with
  | none =>
   rw [hv] at hnum
   refine Ev.step (f := fun k => (spec_l00Number.f k ws[i]).bind fun t => if t.2 = true then (if t.1 < 0 then some (([] : List Int), false) else (if acc.length < 17592186044416 then spec_l12ReadPath.l0 k ws (acc ++ [t.1]) (wrap64 ((i : Int) + 1)) else none)) else some (([] : List Int), false)) (fun k => ?_) (Ev.bind hnum (Ev.now _))
   simp only [spec_l12ReadPath.l0]
   rw [if_pos (by omega), if_pos (by omega), rdOf_at ws i hi']
  | some v =>
   rw [hv] at hnum
   simp only at hnum ⊢
   by_cases h0 : v < 0
   ·rw [if_pos h0]
    refine Ev.step (f := fun k => (spec_l00Number.f k ws[i]).bind fun t => if t.2 = true then (if t.1 < 0 then some (([] : List Int), false) else (if acc.length < 17592186044416 then spec_l12ReadPath.l0 k ws (acc ++ [t.1]) (wrap64 ((i : Int) + 1)) else none)) else some (([] : List Int), false)) (fun k => ?_) (Ev.bind hnum (Ev.congr (fun k => by rw [if_pos rfl, if_pos h0]) (Ev.now _)))
    simp only [spec_l12ReadPath.l0]
    rw [if_pos (by omega), if_pos (by omega), rdOf_at ws i hi']
   ·rw [if_neg h0]
    refine Ev.step (f := fun k => (spec_l00Number.f k ws[i]).bind fun t => if t.2 = true then (if t.1 < 0 then some (([] : List Int), false) else (if acc.length < 17592186044416 then spec_l12ReadPath.l0 k ws (acc ++ [t.1]) (wrap64 ((i : Int) + 1)) else none)) else some (([] : List Int), false)) (fun k => ?_) (Ev.bind hnum (Ev.congr (fun k => by rw [if_pos rfl, if_neg h0, if_pos (by omega), wrap_nat (by omega)]) (ih (i + 1) (acc ++ [v]) (by omega) (by omega) (by simp; omega))))
    simp only [spec_l12ReadPath.l0]
    rw [if_pos (by omega), if_pos (by omega), rdOf_at ws i hi']
theorem impl_loop (ws : List ByteArray) (hn : ws.length ≤ 1000000) (hw : ∀ w ∈ ws, w.size ≤ 1000000) : ∀ (d i : Nat) (acc : List Int), ws.length - i = d → i ≤ ws.length → acc.length ≤ i →
  Ev (fun k => impl_readPath.l0 k acc ws (ws.length : Int) (i : Int)) (implR acc (ws.drop i)) := by
 intro d
 induction d with
 | zero =>
  intro i acc hd hi ha
  rw [List.drop_of_length_le (by omega)]
  refine Ev.step (f := fun k => (impl_isPath.f acc).bind fun t => some (acc, t)) (fun k => ?_) (Ev.now _)
  simp only [impl_readPath.l0]
  rw [if_neg (by omega)]
 | succ d ih =>
  intro i acc hd hi ha
  have hi' : i < ws.length := by omega
  rw [List.drop_eq_getElem_cons hi']
  obtain ⟨x, hx, hxv⟩ := impl_number_is ws[i] (hw _ (List.getElem_mem _))
  unfold implR
  cases hv : num18 ws[i].data.toList with
  | none =>
   rw [hv] at hx
   refine Ev.step (f := fun _ => some (([] : List Int), false)) (fun k => ?_) (Ev.now _)
   simp only [impl_readPath.l0]
   rw [if_pos (by omega), if_pos (by omega), if_pos (by omega), rdOf_at ws i hi', hx]
   rfl
  | some v =>
   rw [hv] at hx
   obtain rfl := hxv v hv
   refine Ev.step (f := fun k => impl_readPath.l0 k (acc ++ [x]) ws (ws.length : Int) ((i + 1 : Nat) : Int)) (fun k => ?_) (ih (i + 1) (acc ++ [x]) (by omega) (by omega) (by simp; omega))
   simp only [impl_readPath.l0]
   rw [if_pos (by omega), if_pos (by omega), if_pos (by omega), rdOf_at ws i hi', hx]
   simp only [Option.bind_some, Option.isSome_some, if_true]
   rw [if_pos (by omega), wrap_nat (by omega)]
def ws (s : ByteArray) : List ByteArray := splitB ⟨#[46]⟩ 0 (countB s ⟨#[46]⟩) s
theorem ws_length (s : ByteArray) : (ws s).length ≤ s.size + 1 := by
 have h := splitB_length_le ⟨#[46]⟩ 0 (countB s ⟨#[46]⟩) s
 have h2 := countB_le1 s ⟨#[46]⟩ (by decide)
 unfold ws
 omega
theorem splitB_sizes (sep : ByteArray) : ∀ (k : Nat) (s : ByteArray), ∀ w ∈ splitB sep 0 k s, w.size ≤ s.size
 | 0, s, w, h => by
  rw [splitB_zero] at h
  rw [List.mem_singleton.1 h]
  exact Nat.le_refl _
 | k + 1, s, w, h => by
  unfold splitB at h
  split at h
  ·rw [List.mem_singleton.1 h]
   exact Nat.le_refl _
  ·rcases List.mem_cons.1 h with rfl | h
   ·rw [ByteArray.size_extract]; omega
   ·have := splitB_sizes sep k _ w h
    rw [ByteArray.size_extract] at this
    omega
def specP (s : ByteArray) : List Int × Bool := if s.toList = [45] then ([], true) else specR [] (ws s)
def implP (s : ByteArray) : List Int × Bool := if s.toList = [45] then ([], true) else implR [] (ws s)
theorem spec_readPath (s : ByteArray) (hs : s.size ≤ 900000) : Ev (fun k => spec_l12ReadPath.f k s) (specP s) := by
 unfold specP
 by_cases hd : s.toList = [45]
 ·rw [if_pos hd]
  exact Ev.congr (fun k => by unfold spec_l12ReadPath.f; rw [if_pos hd]) (Ev.now _)
 ·rw [if_neg hd]
  have hl := ws_length s
  have h1 := spec_loop (ws s) (by omega) (ws s).length 0 [] rfl (by omega) (by simp)
  unfold spec_l12ReadPath.f
  refine Ev.congr (f := fun k => (spec_l00Cut.f k s 46).bind fun t => spec_l12ReadPath.l0 k t [] 0) (fun k => by rw [if_neg hd]) ?_
  exact Ev.bind (cut_all s 46 (by omega)) h1
theorem impl_readPath_is (s : ByteArray) (hs : s.size ≤ 900000) : Ev (fun k => impl_readPath.f k s) (implP s) := by
 unfold implP
 by_cases hd : s.toList = [45]
 ·rw [if_pos hd]
  exact Ev.congr (fun k => by unfold impl_readPath.f; simp only [Option.bind_some]; rw [if_pos hd]) (Ev.now _)
 ·rw [if_neg hd]
  have hl := ws_length s
  have h1 := impl_loop (ws s) (by omega) (fun w hw => Nat.le_trans (splitB_sizes _ _ _ w hw) (by omega)) (ws s).length 0 [] rfl (by omega) (by simp)
  have hsp : strings_Split.f s ⟨#[46]⟩ = some (ws s) := by
   unfold strings_Split.f
   rw [if_pos ⟨rfl, by omega⟩]
   rfl
  unfold impl_readPath.f
  refine Ev.congr (f := fun k => impl_readPath.l0 k [] (ws s) ((ws s).length : Int) 0) (fun k => by simp only [Option.bind_some]; rw [if_neg hd, hsp]; rfl) h1
end Go.Proofs.YtfjnlliilnmfaaaGreatDoor.PureNum
end
section
set_option linter.unusedVariables false
set_option linter.unusedSimpArgs false
namespace Go.Proofs.YtfjnlliilnmfaaaGreatDoor.PureTag
open Go Go.Lib Go.RowKit Go.Proofs.YtfjnlliilnmfaaaGreatDoor.PRCa Go.Proofs.YtfjnlliilnmfaaaGreatDoorW.PrintWords Go.Proofs.YtfjnlliilnmfaaaGreatDoorW.PrintLast Go.Proofs.YtfjnlliilnmfaaaGreatDoorW.PrintMore Go.Proofs.YtfjnlliilnmfaaaGreatDoor.Given Go.Proofs.YtfjnlliilnmfaaaGreatDoor.Plain
def smallU (b : UInt8) : Bool := decide (97 ≤ b.toNat) && decide (b.toNat ≤ 122)
def digitU (b : UInt8) : Bool := decide (48 ≤ b.toNat) && decide (b.toNat ≤ 57)
def tagsFrom : Nat → List UInt8 → Bool
 | _, [] => true
 | i, b :: r => (smallU b || (decide (i ≠ 0) && (digitU b || b == 45))) && tagsFrom (i + 1) r
def lenB (n : Nat) : Bool := decide (1 ≤ n) && decide (n ≤ 12)
def tagB (s : ByteArray) : Bool := lenB s.size && tagsFrom 0 s.data.toList
theorem small_is (b : UInt8) : impl_isSmall.f (b.toNat : Int) = some (smallU b) := by
 unfold impl_isSmall.f smallU
 by_cases h : 97 ≤ b.toNat
 ·rw [if_pos (by omega)]; simp [h]; omega
 ·rw [if_neg (by omega)]; simp [h]
theorem digit_is (b : UInt8) : impl_isDigit.f (b.toNat : Int) = some (digitU b) := by
 unfold impl_isDigit.f digitU
 by_cases h : 48 ≤ b.toNat
 ·rw [if_pos (by omega)]; simp [h]; omega
 ·rw [if_neg (by omega)]; simp [h]
theorem digit_spec (b : UInt8) : spec_l00Digit.f (b.toNat : Int) = some (digitU b) := by
 unfold spec_l00Digit.f digitU
 by_cases h : 48 ≤ b.toNat
 ·rw [if_pos (by omega)]; simp [h]; omega
 ·rw [if_neg (by omega)]; simp [h]
theorem within_is (x lo hi : Int) : impl_within.f x lo hi = some (decide (lo ≤ x) && decide (x ≤ hi)) := by
 unfold impl_within.f
 by_cases h : lo ≤ x
 ·rw [if_pos (by omega)]; simp [h]
 ·rw [if_neg (by omega)]; simp [h]
theorem in_is (x lo hi : Int) : spec_l01In.f x lo hi = some (decide (lo ≤ x) && decide (x ≤ hi)) := by
 unfold spec_l01In.f
 by_cases h : lo ≤ x
 ·rw [if_pos (by omega)]; simp [h]
 ·rw [if_neg (by omega)]; simp [h]
theorem len_is (n : Nat) : (decide ((1 : Int) ≤ (n : Int)) && decide ((n : Int) ≤ 12)) = lenB n := by
 unfold lenB
 congr 1 <;> (rw [decide_eq_decide]; omega)
theorem stroke_is (b : UInt8) : ((b.toNat : Int) = 45) ↔ b = 45 := by
 constructor
 ·intro h
  apply UInt8.toNat_inj.1
  have : (45 : UInt8).toNat = 45 := rfl
  omega
 ·rintro rfl; rfl
theorem impl_tag_loop (s : ByteArray) (hs : s.size ≤ 1000000) : ∀ (d i : Nat), s.size - i = d → i ≤ s.size → Ev (fun k => impl_TagOK.l0 k s (s.size : Int) (i : Int)) (lenB s.size && tagsFrom i (s.data.toList.drop i)) := by
 intro d
 induction d with
 | zero =>
  intro i hd hi
  rw [List.drop_of_length_le (by simp; omega)]
  simp only [tagsFrom, Bool.and_true]
  refine Ev.step (f := fun _ => some (lenB s.size)) (fun k => ?_) (Ev.now _)
  simp only [impl_TagOK.l0]
  rw [if_neg (by omega), within_is, len_is]
  rfl
 | succ d ih =>
  intro i hd hi
  have hi' : i < s.size := by omega
  have hbt := bt_nat s i hi'
  rw [drop_at s i hi']
  generalize (s.data.toList[i]'(by simpa using hi')) = b at hbt ⊢
  have hnext := ih (i + 1) (by omega) (by omega)
  simp only [tagsFrom]
  cases h1 : smallU b with
  | true =>
   simp only [Bool.true_or, Bool.true_and]
   refine Ev.step (fun k => ?_) hnext
   simp only [impl_TagOK.l0]
   rw [if_pos (by omega), if_pos (by omega), if_pos (by omega), hbt, small_is, h1]
   simp only [Option.bind_some, if_true]
   rw [wrap_nat (by omega)]
  | false =>
   simp only [Bool.false_or]
   by_cases h0 : i = 0
   ·simp only [h0, ne_eq, not_true_eq_false, decide_false, Bool.false_and, Bool.and_false]
    refine Ev.step (f := fun _ => some false) (fun k => ?_) (Ev.now _)
    simp only [impl_TagOK.l0]
    rw [if_pos (by omega), if_pos (by omega), if_pos (by omega), ← h0, hbt, small_is, h1]
    simp only [Option.bind_some, Bool.false_eq_true, if_false]
    rw [if_pos (by omega)]
   ·have hd0 : decide (i ≠ 0) = true := by simpa using h0
    rw [hd0]
    cases h2 : digitU b with
    | true =>
     simp only [Bool.true_or, Bool.true_and]
     refine Ev.step (fun k => ?_) hnext
     simp only [impl_TagOK.l0]
     rw [if_pos (by omega), if_pos (by omega), if_pos (by omega), hbt, small_is, h1, digit_is, h2]
     simp only [Option.bind_some, Bool.false_eq_true, if_false, if_true]
     rw [if_neg (by omega), wrap_nat (by omega)]
    | false =>
     by_cases h3 : b = 45
     ·have hb : (b == 45) = true := by simpa using h3
      rw [hb]
      simp only [Bool.or_true, Bool.true_and]
      refine Ev.step (fun k => ?_) hnext
      simp only [impl_TagOK.l0]
      rw [if_pos (by omega), if_pos (by omega), if_pos (by omega), hbt, small_is, h1, digit_is, h2]
      simp only [Option.bind_some, Bool.false_eq_true, if_false]
      rw [if_neg (by omega), if_pos ((stroke_is b).2 h3), wrap_nat (by omega)]
     ·have hb : (b == 45) = false := by simpa using h3
      rw [hb]
      simp only [Bool.or_false, Bool.and_false, Bool.false_and]
      refine Ev.step (f := fun _ => some false) (fun k => ?_) (Ev.now _)
      simp only [impl_TagOK.l0]
      rw [if_pos (by omega), if_pos (by omega), if_pos (by omega), hbt, small_is, h1, digit_is, h2]
      simp only [Option.bind_some, Bool.false_eq_true, if_false]
      rw [if_neg (by omega), if_neg (fun h => h3 ((stroke_is b).1 h))]
theorem impl_tag (s : ByteArray) (hs : s.size ≤ 1000000) : Ev (fun k => impl_TagOK.f k s) (tagB s) := by
 have h := impl_tag_loop s hs s.size 0 rfl (by omega)
 simpa [tagB, impl_TagOK.f] using h
theorem spec_tag_loop (s : ByteArray) (hs : s.size ≤ 1000000) : ∀ (d i : Nat), s.size - i = d → i ≤ s.size → Ev (fun k => spec_l01Tag.l0 k s (i : Int)) (tagsFrom i (s.data.toList.drop i)) := by
 intro d
 induction d with
 | zero =>
  intro i hd hi
  rw [List.drop_of_length_le (by simp; omega)]
  simp only [tagsFrom, Bool.and_true]
  refine Ev.step (f := fun _ => some true) (fun k => ?_) (Ev.now _)
  simp only [spec_l01Tag.l0]
  rw [if_neg (by omega)]
 | succ d ih =>
  intro i hd hi
  have hi' : i < s.size := by omega
  have hbt := bt_nat s i hi'
  rw [drop_at s i hi']
  generalize (s.data.toList[i]'(by simpa using hi')) = b at hbt ⊢
  have hnext := ih (i + 1) (by omega) (by omega)
  simp only [tagsFrom]
  have key : ∀ (k : Nat) (A : Option Bool), (if (b.toNat : Int) ≥ 97 then (if (b.toNat : Int) ≤ 122 then A else (if (i : Int) = 0 then some false else ((spec_l00Digit.f (b.toNat : Int)).bind fun t => if t = true then A else if (b.toNat : Int) = 45 then A else some false))) else (if (i : Int) = 0 then some false else ((spec_l00Digit.f (b.toNat : Int)).bind fun t => if t = true then A else if (b.toNat : Int) = 45 then A else some false))) = if (smallU b || (decide (i ≠ 0) && (digitU b || b == 45))) = true then A else some false := by
   intro k A
   rw [digit_spec]
   simp only [Option.bind_some]
   have e : (b == 45) = decide ((b.toNat : Int) = 45) := by
    rw [Bool.eq_iff_iff]
    simp only [beq_iff_eq, decide_eq_true_eq]
    exact (stroke_is b).symm
   rw [e]
   unfold smallU
   rw [show decide (97 ≤ b.toNat) = decide ((b.toNat : Int) ≥ 97) from by rw [decide_eq_decide]; omega, show decide (b.toNat ≤ 122) = decide ((b.toNat : Int) ≤ 122) from by rw [decide_eq_decide]; omega, show decide (i ≠ 0) = !decide ((i : Int) = 0) from by by_cases h : i = 0 <;> simp [h]]
   by_cases g1 : (b.toNat : Int) ≥ 97 <;> by_cases g2 : (b.toNat : Int) ≤ 122 <;> by_cases g3 : (i : Int) = 0 <;> by_cases g4 : (b.toNat : Int) = 45 <;> cases digitU b <;> simp only [g1, g2, g3, g4, if_true, if_false, decide_true, decide_false, Bool.true_and, Bool.and_true, Bool.false_and, Bool.and_false, Bool.or_true, Bool.true_or, Bool.false_or, Bool.or_false, Bool.not_true, Bool.not_false, Bool.false_eq_true] <;> simp
  cases hc : (smallU b || (decide (i ≠ 0) && (digitU b || b == 45))) with
  | true =>
   rw [hc] at key
   simp only [Bool.true_and]
   refine Ev.step (fun k => ?_) hnext
   simp only [spec_l01Tag.l0]
   rw [if_pos (by omega), if_pos (by omega), hbt, wrap_nat (by omega)]
   exact (key k _).trans (if_pos rfl)
  | false =>
   rw [hc] at key
   simp only [Bool.false_and]
   refine Ev.step (f := fun _ => some false) (fun k => ?_) (Ev.now _)
   simp only [spec_l01Tag.l0]
   rw [if_pos (by omega), if_pos (by omega), hbt]
   exact (key k _).trans (if_neg (by decide))
theorem spec_tag (s : ByteArray) (hs : s.size ≤ 1000000) : Ev (fun k => spec_l01Tag.f k s) (tagB s) := by
 unfold spec_l01Tag.f tagB
 rw [in_is, len_is]
 cases h : lenB s.size with
 | false => exact Ev.congr (fun k => by simp) (Ev.now false)
 | true =>
  have h2 := spec_tag_loop s hs s.size 0 rfl (by omega)
  refine Ev.congr (f := fun k => spec_l01Tag.l0 k s ((0 : Nat) : Int)) (fun k => by simp) ?_
  simpa using h2
theorem tag_free : ∀ {l : List UInt8} {i : Nat}, tagsFrom i l = true → (32 : UInt8) ∉ l
 | [], _, _ => by simp
 | b :: r, i, h => by
  simp only [tagsFrom, Bool.and_eq_true] at h
  have := tag_free h.2
  intro hm
  rcases List.mem_cons.1 hm with rfl | hm
  ·have := h.1
   simp [smallU, digitU] at this
  ·exact this hm
theorem tag_some {s : ByteArray} (h : tagB s = true) : s.data.toList ≠ [] ∧ (32 : UInt8) ∉ s.data.toList ∧ s.size ≤ 12 := by
 simp only [tagB, lenB, Bool.and_eq_true, decide_eq_true_eq] at h
 refine ⟨fun e => ?_, tag_free h.2, h.1.2⟩
 have : s.data.toList.length = s.size := by simp
 rw [e] at this
 simp at this
 omega
end Go.Proofs.YtfjnlliilnmfaaaGreatDoor.PureTag
end
section
set_option linter.unusedVariables false
set_option linter.unusedSimpArgs false
namespace Go.Proofs.YtfjnlliilnmfaaaGreatDoor.PureBlank
open Go Go.Lib Go.RowKit Go.Proofs.YtfjnlliilnmfaaaGreatDoor.PRCa Go.Proofs.YtfjnlliilnmfaaaGreatDoorW.PrintWords Go.Proofs.YtfjnlliilnmfaaaGreatDoorW.PrintLast Go.Proofs.YtfjnlliilnmfaaaGreatDoorW.PrintMore Go.Proofs.YtfjnlliilnmfaaaGreatDoor.Given Go.Proofs.YtfjnlliilnmfaaaGreatDoor.Plain
abbrev Bs := List UInt8
def mkB (l : Bs) : ByteArray := ⟨l.toArray⟩
theorem mkB_list (l : Bs) : (mkB l).data.toList = l := by simp [mkB]
theorem mkB_of (s : ByteArray) : mkB s.data.toList = s := data_inj (mkB_list _)
theorem mkB_size (l : Bs) : (mkB l).size = l.length := by simp [mkB, ByteArray.size]
def cutW : Bs → Bs × Bs × Bool
 | [] => ([], [], false)
 | b :: r => if b = 32 then ([], r, true) else (b :: (cutW r).1, (cutW r).2.1, (cutW r).2.2)
theorem cut_is : ∀ l : Bs, Lib.cut l [32] = cutW l
 | [] => by simp [Lib.cut, cutW, index]
 | b :: l => by
  have ih := cut_is l
  by_cases hb : b = 32
  ·subst hb; simp [Lib.cut, index_one_eq, cutW]
  ·simp only [cutW, hb, if_false]
   rw [← ih]
   unfold Lib.cut
   rw [index_one_ne hb]
   by_cases h1 : index l [32] = -1
   ·simp [h1]
   ·rw [show (if (index l [32] == -1) = true then (-1 : Int) else index l [32] + 1) = index l [32] + 1 from if_neg (by simpa using h1)]
    by_cases h0 : 0 ≤ index l [32]
    ·rw [if_pos h0, if_pos (by omega)]
     obtain ⟨i, hi⟩ : ∃ i : Nat, index l [32] = i := ⟨(index l [32]).toNat, by omega⟩
     rw [hi]
     have e2 : ((i : Int) + 1).toNat = i + 1 := by omega
     rw [e2]
     simp
    ·rw [if_neg h0, if_neg (by omega)]
theorem cutW_free : ∀ l : Bs, (32 : UInt8) ∉ (cutW l).1
 | [] => by simp [cutW]
 | b :: r => by
  have ih := cutW_free r
  by_cases hb : b = 32
  ·simp [cutW, hb]
  ·simp only [cutW, hb, if_false, List.mem_cons, not_or]
   exact ⟨fun e => hb e.symm, ih⟩
theorem cutW_join : ∀ l : Bs, (cutW l).2.2 = true → l = (cutW l).1 ++ 32 :: (cutW l).2.1
 | [], h => by simp [cutW] at h
 | b :: r, h => by
  by_cases hb : b = 32
  ·simp [cutW, hb]
  ·simp only [cutW, hb, if_false] at h ⊢
   rw [List.cons_append, ← cutW_join r h]
theorem cutW_last : ∀ l : Bs, (cutW l).2.2 = false → (cutW l).1 = l ∧ (cutW l).2.1 = []
 | [], h => by simp [cutW]
 | b :: r, h => by
  by_cases hb : b = 32
  ·simp [cutW, hb] at h
  ·simp only [cutW, hb, if_false] at h ⊢
   have := cutW_last r h
   exact ⟨by rw [this.1], this.2⟩
theorem cutW_make : ∀ (w r : Bs), (32 : UInt8) ∉ w → cutW (w ++ 32 :: r) = (w, r, true)
 | [], r, _ => by simp [cutW]
 | b :: w, r, h => by
  have hb : ¬ b = 32 := fun e => h (by simp [e])
  have ih := cutW_make w r (fun hm => h (by simp [hm]))
  simp [cutW, hb, ih]
theorem cutW_whole : ∀ (w : Bs), (32 : UInt8) ∉ w → cutW w = (w, [], false)
 | [], _ => rfl
 | b :: w, h => by
  have hb : ¬ b = 32 := fun e => h (by simp [e])
  have ih := cutW_whole w (fun hm => h (by simp [hm]))
  simp [cutW, hb, ih]
theorem cutW_len : ∀ l : Bs, (cutW l).1.length ≤ l.length ∧ (cutW l).2.1.length ≤ l.length
 | [] => by simp [cutW]
 | b :: r => by
  have ih := cutW_len r
  by_cases hb : b = 32
  ·simp [cutW, hb]
  ·simp only [cutW, hb, if_false, List.length_cons]
   omega
theorem cutW_take : ∀ l : Bs, (cutW l).1 = l.take (cutW l).1.length
 | [] => by simp [cutW]
 | b :: r => by
  by_cases hb : b = 32
  ·simp [cutW, hb]
  ·simp only [cutW, hb, if_false, List.length_cons, List.take_succ_cons]
   rw [← cutW_take r]
theorem cutW_drop : ∀ l : Bs, (cutW l).2.1 = l.drop ((cutW l).1.length + 1)
 | [] => by simp [cutW]
 | b :: r => by
  by_cases hb : b = 32
  ·simp [cutW, hb]
  ·simp only [cutW, hb, if_false, List.length_cons, List.drop_succ_cons]
   exact cutW_drop r
theorem cutW_stop : ∀ l : Bs, ((cutW l).2.2 = true ∧ ∃ h : (cutW l).1.length < l.length, l[(cutW l).1.length] = 32) ∨ ((cutW l).2.2 = false ∧ (cutW l).1.length = l.length)
 | [] => by simp [cutW]
 | b :: r => by
  by_cases hb : b = 32
  ·simp [cutW, hb]
  ·simp only [cutW, hb, if_false, List.length_cons]
   rcases cutW_stop r with ⟨h1, h2, h3⟩ | ⟨h1, h2⟩
   ·exact .inl ⟨h1, by omega, by simpa using h3⟩
   ·exact .inr ⟨h1, by omega⟩
def headW : Nat → Bool → Bs → Option (List Bs × Bs)
 | 0, _, l => some ([], l)
 | n + 1, text, l => if (cutW l).1 = [] then none else if ((decide (n = 0) && !text) != !(cutW l).2.2) = true then none else (headW n text (cutW l).2.1).map fun p => ((cutW l).1 :: p.1, p.2)
theorem head_scan (s : ByteArray) (n : Nat) (text : Bool) (out : List ByteArray) (r : List ByteArray × ByteArray × Bool) (hs : s.size ≤ 1000000) : ∀ (d i : Nat), s.size - i = d → i ≤ s.size →
  Ev (fun k => spec_l12Head.l1 k s (n : Int) text out ((i + (cutW (s.data.toList.drop i)).1.length : Nat) : Int)) r → Ev (fun k => spec_l12Head.l1 k s (n : Int) text out (i : Int)) r := by
 intro d
 induction d with
 | zero =>
  intro i hd hi h
  rw [List.drop_of_length_le (by simp; omega)] at h
  simpa [cutW] using h
 | succ d ih =>
  intro i hd hi h
  have hi' : i < s.size := by omega
  have hbt := bt_nat s i hi'
  rw [drop_at s i hi'] at h
  generalize (s.data.toList[i]'(by simpa using hi')) = b at hbt h
  by_cases hb : b = 32
  ·simpa [cutW, hb] using h
  ·simp only [cutW, hb, if_false, List.length_cons] at h
   have h2 := ih (i + 1) (by omega) (by omega) (by
    have e : i + ((cutW (s.data.toList.drop (i + 1))).1.length + 1) = i + 1 + (cutW (s.data.toList.drop (i + 1))).1.length := by omega
    rw [e] at h
    exact h)
   refine Ev.step (fun k => ?_) h2
   simp only [spec_l12Head.l1]
   have hne : ¬ bt s (i : Int) = 32 := by
    rw [hbt]
    intro e
    apply hb
    apply UInt8.toNat_inj.1
    have : (32 : UInt8).toNat = 32 := rfl
    omega
   rw [if_pos (by omega), if_pos (by omega), if_neg hne, wrap_nat (by omega)]
theorem wrap_pred {n : Nat} (h1 : 1 ≤ n) (h : n < 1000) : wrap64 ((n : Int) - 1) = ((n - 1 : Nat) : Int) := by
 unfold wrap64
 omega
theorem mn_le {a b : Nat} (h : a ≤ b) : mn ((a : Nat) : Int) (b : Int) = (a : Int) := by unfold mn; omega
theorem mn_gt {a b : Nat} (h : b ≤ a) : mn ((a : Nat) : Int) (b : Int) = (b : Int) := by unfold mn; omega
theorem head_loop (n : Nat) (text : Bool) (hn : n < 1000) : ∀ (d : Nat) (s : ByteArray) (out : List ByteArray), n - out.length = d → out.length ≤ n → s.size ≤ 1000000 →
  (∀ ws rest, headW d text s.data.toList = some (ws, rest) → Ev (fun k => spec_l12Head.l0 k s (n : Int) text out) (out ++ ws.map mkB, mkB rest, true)) ∧
  (headW d text s.data.toList = none → ∃ r, Ev (fun k => spec_l12Head.l0 k s (n : Int) text out) r ∧ r.2.2 = false) := by
 intro d
 induction d with
 | zero =>
  intro s out hd ho hs
  refine ⟨fun ws rest h => ?_, (fun h => by simp [headW] at h)⟩
  simp only [headW, Option.some.injEq, Prod.mk.injEq] at h
  obtain ⟨rfl, rfl⟩ := h
  rw [List.map_nil, List.append_nil, mkB_of]
  refine Ev.step (f := fun _ => some (out, s, true)) (fun k => ?_) (Ev.now _)
  simp only [spec_l12Head.l0]
  rw [if_neg (by omega)]
 | succ d ih =>
  intro s out hd ho hs
  have hlen : s.data.toList.length = s.size := by simp
  have hcl := cutW_len s.data.toList
  have hstop := cutW_stop s.data.toList
  have htake := cutW_take s.data.toList
  have hdrop := cutW_drop s.data.toList
  have hscan : ∀ r, Ev (fun k => spec_l12Head.l1 k s (n : Int) text out (((cutW s.data.toList).1.length : Nat) : Int)) r → Ev (fun k => spec_l12Head.l0 k s (n : Int) text out) r := by
   intro r h
   refine Ev.step (f := fun k => spec_l12Head.l1 k s (n : Int) text out ((0 : Nat) : Int)) (fun k => ?_) (head_scan s n text out r hs s.size 0 rfl (by omega) (by simpa using h))
   simp only [spec_l12Head.l0]
   rw [if_pos (by omega)]
   rfl
  generalize hw : (cutW s.data.toList).1 = w at hcl hstop htake hdrop hscan
  generalize hr : (cutW s.data.toList).2.1 = t at hcl hdrop
  generalize hf : (cutW s.data.toList).2.2 = f at hstop
  have hlast : (((out.length : Int) = wrap64 ((n : Int) - 1)) ↔ d = 0) := by
   rw [wrap_pred (by omega) hn]
   omega
  have hgo : ∀ (bad : Bool) , ((decide (d = 0) && !text) != !f) = bad → w ≠ [] → ∀ k, spec_l12Head.l1 (k + 1) s (n : Int) text out ((w.length : Nat) : Int) = if bad = true then some (out, ⟨#[]⟩, false) else spec_l12Head.l0 k (mkB t) (n : Int) text (out ++ [mkB w]) := by
   intro bad hbad hne k
   have hpos : 1 ≤ w.length := by
    cases w with
    | nil => exact absurd rfl hne
    | cons _ _ => simp
   have e0 : s.extract 0 ((w.length : Nat) : Int).toNat = mkB w := by
    apply data_inj
    rw [extract_list, mkB_list, Int.toNat_natCast, Nat.sub_zero, List.drop_zero]
    exact htake.symm
   have e1 : s.extract (mn (wrap64 (((w.length : Nat) : Int) + 1)) (s.size : Int)).toNat s.size = mkB t := by
    apply data_inj
    rw [extract_list, mkB_list, hdrop, List.take_of_length_le (by rw [List.length_drop, hlen]; exact Nat.le_refl _)]
    rw [wrap_nat (by omega)]
    rcases Nat.lt_or_ge w.length s.size with hl | hl
    ·rw [mn_le (by omega), Int.toNat_natCast]
    ·rw [mn_gt (by omega), Int.toNat_natCast, List.drop_of_length_le (by omega), List.drop_of_length_le (by omega)]
   have e2 : 0 ≤ mn (wrap64 (((w.length : Nat) : Int) + 1)) (s.size : Int) ∧ mn (wrap64 (((w.length : Nat) : Int) + 1)) (s.size : Int) ≤ (s.size : Int) := by
    rw [wrap_nat (by omega)]
    unfold mn
    omega
   rcases hstop with ⟨hft, hl, h32⟩ | ⟨hff, hl⟩
   ·have hbt : bt s ((w.length : Nat) : Int) = 32 := by
     rw [bt_nat s w.length (by omega), h32]
     rfl
    have hk : (((w.length : Nat) : Int) == (s.size : Int)) = false := by
     simp only [beq_eq_false_iff_ne]
     omega
    subst hft
    simp only [spec_l12Head.l1]
    rw [if_pos (by omega), if_pos (by omega), if_pos hbt, e0, e1, hk]
    by_cases hd0 : d = 0
    ·rw [if_pos (hlast.2 hd0), if_neg (by omega)]
     have hb2 : ((!text) != false) = bad := by rw [← hbad]; simp [hd0]
     rw [hb2]
     cases bad with
     | true => simp
     | false => simp only [Bool.false_eq_true, if_false]; rw [if_pos (by omega), if_pos (by omega), if_pos e2.1, if_pos e2.2]
    ·rw [if_neg (fun h => hd0 (hlast.1 h)), if_neg (by omega)]
     have hb2 : bad = false := by rw [← hbad]; simp [hd0]
     rw [hb2]
     simp only [bne_self_eq_false, Bool.false_eq_true, if_false]
     rw [if_pos (by omega), if_pos (by omega), if_pos e2.1, if_pos e2.2]
   ·have hk : (((w.length : Nat) : Int) == (s.size : Int)) = true := by
     simp only [beq_iff_eq]
     omega
    subst hff
    simp only [spec_l12Head.l1]
    rw [if_neg (by omega), e0, e1, hk]
    by_cases hd0 : d = 0
    ·rw [if_pos (hlast.2 hd0), if_neg (by omega)]
     have hb2 : ((!text) != true) = bad := by rw [← hbad]; simp [hd0]
     rw [hb2]
     cases bad with
     | true => simp
     | false => simp only [Bool.false_eq_true, if_false]; rw [if_pos (by omega), if_pos (by omega), if_pos (by omega), if_pos e2.1, if_pos e2.2]
    ·rw [if_neg (fun h => hd0 (hlast.1 h)), if_neg (by omega)]
     have hb2 : bad = true := by rw [← hbad]; simp [hd0]
     rw [hb2]
     simp
  simp only [headW, hw, hr, hf]
  by_cases hne : w = []
  ·rw [if_pos hne]
   refine ⟨(fun _ _ h => by cases h), fun _ => ⟨(out, ⟨#[]⟩, false), hscan _ ?_, rfl⟩⟩
   refine Ev.step (f := fun _ => some (out, ⟨#[]⟩, false)) (fun k => ?_) (Ev.now _)
   subst hne
   simp only [spec_l12Head.l1, List.length_nil]
   rcases hstop with ⟨hft, hl, h32⟩ | ⟨hff, hl⟩
   ·have hbt : bt s ((0 : Nat) : Int) = 32 := by
     rw [bt_nat s 0 (by simp at hl; omega)]
     simp only [List.length_nil] at h32
     rw [h32]
     rfl
    simp only [List.length_nil] at hl
    rw [if_pos (by omega), if_pos (by omega), if_pos hbt]
    split <;> rfl
   ·simp only [List.length_nil] at hl
    rw [if_neg (by omega)]
    split <;> rfl
  ·rw [if_neg hne]
   cases hb : ((decide (d = 0) && !text) != !f) with
   | true =>
    rw [if_pos rfl]
    refine ⟨(fun _ _ h => by cases h), fun _ => ⟨(out, ⟨#[]⟩, false), hscan _ ?_, rfl⟩⟩
    exact Ev.step (f := fun _ => some (out, ⟨#[]⟩, false)) (fun k => (hgo true hb hne k).trans (if_pos rfl)) (Ev.now _)
   | false =>
    rw [if_neg (by decide)]
    have h2 := ih (mkB t) (out ++ [mkB w]) (by simp; omega) (by simp; omega) (by rw [mkB_size]; omega)
    rw [mkB_list] at h2
    have hs2 : ∀ r, Ev (fun k => spec_l12Head.l0 k (mkB t) (n : Int) text (out ++ [mkB w])) r → Ev (fun k => spec_l12Head.l0 k s (n : Int) text out) r := fun r h => hscan r (Ev.step (fun k => (hgo false hb hne k).trans (if_neg (by decide))) h)
    cases hh : headW d text t with
    | none =>
     refine ⟨(fun _ _ h => by simp at h), fun _ => ?_⟩
     obtain ⟨r, hr1, hr2⟩ := h2.2 hh
     exact ⟨r, hs2 r hr1, hr2⟩
    | some p =>
     refine ⟨fun ws rest h => ?_, (fun h => by simp at h)⟩
     simp only [Option.map_some, Option.some.injEq, Prod.mk.injEq] at h
     obtain ⟨rfl, rfl⟩ := h
     have := h2.1 p.1 p.2 hh
     rw [List.append_assoc] at this
     exact hs2 _ this
theorem spec_head (n : Nat) (text : Bool) (hn : n < 1000) (s : ByteArray) (hs : s.size ≤ 1000000) :
  (∀ ws rest, headW n text s.data.toList = some (ws, rest) → Ev (fun k => spec_l12Head.f k s (n : Int) text) (ws.map mkB, mkB rest, true)) ∧
  (headW n text s.data.toList = none → ∃ r, Ev (fun k => spec_l12Head.f k s (n : Int) text) r ∧ r.2.2 = false) := by
 have h := head_loop n text hn n s [] rfl (by simp) hs
 exact ⟨fun ws rest h0 => by have := h.1 ws rest h0; rwa [List.nil_append] at this, h.2⟩
def joinSp : List Bs → Bs
 | [] => []
 | [w] => w
 | w :: r => w ++ 32 :: joinSp r
def wordy (w : Bs) : Prop := w ≠ [] ∧ (32 : UInt8) ∉ w
theorem head_back (x : Bool) : ∀ (n : Nat) (l : Bs) (ws : List Bs) (rest : Bs), headW (n + 1) x l = some (ws, rest) → l = joinSp ws ++ (if x = true then 32 :: rest else []) ∧ (x = false → rest = []) ∧ ws.length = n + 1 ∧ ∀ w ∈ ws, wordy w := by
 intro n
 induction n with
 | zero =>
  intro l ws rest h
  rw [headW] at h
  have hfree := cutW_free l
  by_cases hne : (cutW l).1 = []
  ·rw [if_pos hne] at h; cases h
  ·rw [if_neg hne] at h
   simp only [decide_true, Bool.true_and, headW, Option.map_some] at h
   split at h
   ·cases h
   ·rename_i hb
    simp only [Option.some.injEq, Prod.mk.injEq] at h
    obtain ⟨rfl, rfl⟩ := h
    have hw : ∀ w ∈ [(cutW l).1], wordy w := fun w hm => by rw [List.mem_singleton.1 hm]; exact ⟨hne, hfree⟩
    cases x with
    | true =>
     have hf : (cutW l).2.2 = true := by simpa using hb
     exact ⟨by simpa [joinSp] using cutW_join l hf, (fun h => by cases h), rfl, hw⟩
    | false =>
     have hf : (cutW l).2.2 = false := by simpa using hb
     have := cutW_last l hf
     exact ⟨by simpa [joinSp] using this.1.symm, fun _ => this.2, rfl, hw⟩
 | succ n ih =>
  intro l ws rest h
  rw [headW] at h
  have hfree := cutW_free l
  by_cases hne : (cutW l).1 = []
  ·rw [if_pos hne] at h; cases h
  ·rw [if_neg hne] at h
   have hd : decide (n + 1 = 0) = false := by simp
   rw [hd] at h
   simp only [Bool.false_and] at h
   split at h
   ·cases h
   ·rename_i hb
    have hf : (cutW l).2.2 = true := by simpa using hb
    obtain ⟨p, hp, h⟩ := Option.map_eq_some_iff.1 h
    simp only [Prod.mk.injEq] at h
    obtain ⟨rfl, rfl⟩ := h
    obtain ⟨h1, h2, h3, h4⟩ := ih _ _ _ hp
    refine ⟨?_, h2, by simp [h3], fun w hm => ?_⟩
    ·have hj := cutW_join l hf
     rw [h1] at hj
     cases hp1 : p.1 with
     | nil => rw [hp1] at h3; simp at h3
     | cons a b =>
      rw [hp1] at hj
      simp only [joinSp]
      refine hj.trans ?_
      simp
    ·rcases List.mem_cons.1 hm with rfl | hm
     ·exact ⟨hne, hfree⟩
     ·exact h4 w hm
theorem head_make (x : Bool) (rest : Bs) (hx : x = false → rest = []) : ∀ (ws : List Bs), ws ≠ [] → (∀ w ∈ ws, wordy w) → headW ws.length x (joinSp ws ++ (if x = true then 32 :: rest else [])) = some (ws, rest)
 | [], h, _ => absurd rfl h
 | [w], _, hw => by
  obtain ⟨h1, h2⟩ := hw w (by simp)
  cases x with
  | true => simp [joinSp, headW, cutW_make w rest h2, h1]
  | false => simp [joinSp, headW, cutW_whole w h2, h1, hx rfl]
 | w :: v :: r, _, hw => by
  obtain ⟨h1, h2⟩ := hw w (by simp)
  have ih := head_make x rest hx (v :: r) (by simp) (fun u hu => hw u (by simp [hu]))
  have e : joinSp (w :: v :: r) ++ (if x = true then 32 :: rest else []) = w ++ 32 :: (joinSp (v :: r) ++ (if x = true then 32 :: rest else [])) := by simp [joinSp]
  rw [e]
  simp only [List.length_cons] at ih ⊢
  rw [headW, cutW_make w _ h2]
  simp only [h1, if_false]
  rw [ih]
  simp
end Go.Proofs.YtfjnlliilnmfaaaGreatDoor.PureBlank
end
section
set_option linter.unusedVariables false
set_option linter.unusedSimpArgs false
namespace Go.Proofs.YtfjnlliilnmfaaaGreatDoor.PureCall
open Go Go.Lib Go.RowKit Go.Proofs.YtfjnlliilnmfaaaGreatDoor.PRCa Go.Proofs.YtfjnlliilnmfaaaGreatDoor.RC Go.Proofs.YtfjnlliilnmfaaaGreatDoor.RF Go.Proofs.YtfjnlliilnmfaaaGreatDoor.PureNum Go.Proofs.YtfjnlliilnmfaaaGreatDoor.PureTag Go.Proofs.YtfjnlliilnmfaaaGreatDoor.PureBlank Go.Proofs.YtfjnlliilnmfaaaGreatDoorW.PrintWords Go.Proofs.YtfjnlliilnmfaaaGreatDoorW.PrintLast Go.Proofs.YtfjnlliilnmfaaaGreatDoorW.PrintMore Go.Proofs.YtfjnlliilnmfaaaGreatDoor.Given Go.Proofs.YtfjnlliilnmfaaaGreatDoor.Plain
theorem hasPath_is (K : Int) : impl_hasPath.f K = some (pathK K) := by
 unfold impl_hasPath.f pathK
 rw [within_is]
 simp only [Option.bind_some, Option.some.injEq]
 rw [Bool.eq_iff_iff]
 simp only [Bool.and_eq_true, Bool.or_eq_true, decide_eq_true_eq, beq_iff_eq]
 omega
theorem hasName_is (K : Int) : impl_hasName.f K = some (nameK K) := by
 unfold impl_hasName.f nameK
 by_cases h1 : K = 1
 ·simp [h1]
 ·by_cases h2 : K = 2
  ·simp [h2]
  ·simp [h1, h2]
theorem hasConfig_is (K : Int) : impl_hasConfig.f K = some (cfgK K) := by
 unfold impl_hasConfig.f cfgK
 by_cases h1 : K = 6
 ·simp [h1]
 ·simp [h1]
theorem hasText_is (K : Int) : impl_hasText.f K = some (textK K) := by
 unfold impl_hasText.f textK
 by_cases h1 : K = 3
 ·simp [h1]
 ·by_cases h2 : K = 4
  ·simp [h2]
  ·by_cases h3 : K = 6
   ·simp [h3]
   ·simp [h1, h2, h3]
theorem isPath_is (P : List Int) : impl_isPath.f P = some (decide (P.length ≤ 10) && P.all (inB 0 60)) := by
 unfold impl_isPath.f
 congr 2
 rw [List.not_any_eq_all_not]
 congr 1
 funext i
 simp [badStep, inB]
theorem fin_bool : ∀ (x3 cT sT eP lP aP eC iC c p x : Bool), (cT = true → sT = true) → (eP = true → lP = true ∧ aP = true) → (eC = true → iC = true) →
  (x3 && ((cT || (x && sT)) && ((eP || (p && (lP && aP))) && (eC || (c && iC))))) = (lP && (sT && ((if c = true then iC else eC) && ((p || eP) && ((x || cT) && (aP && x3)))))) := by decide
def okc (K D C : Int) (P : List Int) (N T : ByteArray) : Bool := okB K D C P N T (tagB N)
theorem spec_ok (K D C : Int) (P : List Int) (N T : ByteArray) (hN : N.size ≤ 1000000) : Ev (fun k => spec_l10Call.f k K D C P N T) (okc K D C P N T) := by
 unfold spec_l10Call.f
 exact Ev.bind (spec_tag N hN) (Ev.now _)
theorem j2_is (k : Nat) (x3 x4 : Bool) (K D C : Int) (P : List Int) (N T : ByteArray) :
  impl_CallOK.j2 (k + 1) x3 x4 K D C P N T = some (x3 && (x4 && ((P.isEmpty || (pathK K && (decide (P.length ≤ 10) && P.all (inB 0 60)))) && (C == 0 || (cfgK K && inB 0 3 C))))) := by
 simp only [impl_CallOK.j2]
 rw [hasPath_is, hasConfig_is, isPath_is, within_is]
 simp only [Option.bind_some]
 have e : (decide ((0 : Int) ≤ C) && decide (C ≤ 3)) = inB 0 3 C := rfl
 rw [e]
 have e2 : P.isEmpty = decide (P = []) := by cases P <;> simp
 rw [e2]
 have e1 : ((P.length : Int) = 0) ↔ P = [] := by cases P <;> simp; omega
 simp only [e1]
 have e3 : (C == 0) = decide (C = 0) := rfl
 rw [e3]
 generalize (decide (P.length ≤ 10) && P.all (inB 0 60)) = q
 generalize inB 0 3 C = b
 generalize pathK K = p
 generalize cfgK K = c
 by_cases h1 : P = [] <;> by_cases h2 : C = 0 <;> cases x3 <;> cases x4 <;> cases p <;> cases c <;> cases q <;> simp [h1, h2]
theorem impl_ok (K D C : Int) (P : List Int) (N T : ByteArray) (hN : N.size ≤ 1000000) : Ev (fun k => impl_CallOK.f k K D C P N T) (okc K D C P N T) := by
 unfold impl_CallOK.f okc okB
 rw [within_is, within_is]
 simp only [Option.bind_some]
 have eK : (decide ((1 : Int) ≤ K) && decide (K ≤ 9)) = inB 1 9 K := rfl
 have eD : (decide ((0 : Int) ≤ D) && decide (D ≤ 5)) = inB 0 5 D := rfl
 rw [eK, eD]
 have hbad : ∀ b, b = true → Ev (fun k => impl_CallOK.j0 k b K D C P N T) false := fun b hb => Ev.step (f := fun _ => some false) (fun k => by simp only [impl_CallOK.j0, hb, if_true]) (Ev.now _)
 cases hK : inB 1 9 K with
 | false => simp only [Bool.false_and, Bool.false_eq_true, if_false]; exact hbad true rfl
 | true =>
  simp only [Bool.true_and, if_true]
  cases hD : inB 0 5 D with
  | false => simp only [Bool.false_and, Bool.not_false]; exact hbad true rfl
  | true =>
   simp only [Bool.true_and, Bool.not_true]
   have hj2 : ∀ x3 x4 : Bool, Ev (fun k => impl_CallOK.j2 k x3 x4 K D C P N T) (x3 && (x4 && ((P.isEmpty || (pathK K && (decide (P.length ≤ 10) && P.all (inB 0 60)))) && (C == 0 || (cfgK K && inB 0 3 C))))) := fun x3 x4 => Ev.step (fun k => j2_is k x3 x4 K D C P N T) (Ev.now _)
   have hj1 : ∀ x3 : Bool, Ev (fun k => impl_CallOK.j1 k x3 K D C P N T) (x3 && ((T.toList == [] || (textK K && decide (T.size ≤ 4096))) && ((P.isEmpty || (pathK K && (decide (P.length ≤ 10) && P.all (inB 0 60)))) && (C == 0 || (cfgK K && inB 0 3 C))))) := by
    intro x3
    by_cases hT : T.toList = []
    ·have e : (T.toList == []) = true := by simpa using hT
     rw [e, Bool.true_or]
     exact Ev.step (fun k => by simp only [impl_CallOK.j1]; rw [if_pos hT]) (hj2 x3 true)
    ·have e : (T.toList == []) = false := by simpa using hT
     rw [e, Bool.false_or]
     cases hx : textK K with
     | true =>
      rw [Bool.true_and]
      have e2 : decide ((T.size : Int) ≤ 4096) = decide (T.size ≤ 4096) := by rw [decide_eq_decide]; omega
      refine Ev.step (fun k => ?_) (hj2 x3 _)
      simp only [impl_CallOK.j1]
      rw [if_neg hT, hasText_is, hx, ← e2]
      rfl
     | false =>
      rw [Bool.false_and]
      refine Ev.step (fun k => ?_) (hj2 x3 _)
      simp only [impl_CallOK.j1]
      rw [if_neg hT, hasText_is, hx]
      rfl
   have hfin : ∀ x3 : Bool, (x3 && ((T.toList == [] || (textK K && decide (T.size ≤ 4096))) && ((P.isEmpty || (pathK K && (decide (P.length ≤ 10) && P.all (inB 0 60)))) && (C == 0 || (cfgK K && inB 0 3 C))))) =
     (decide (P.length ≤ 10) && (decide (T.size ≤ 4096) && ((if cfgK K = true then inB 0 3 C else C == 0) && ((pathK K || P.isEmpty) && ((textK K || T.toList == []) && (P.all (inB 0 60) && x3)))))) := by
    intro x3
    refine fin_bool x3 _ _ _ _ _ _ _ _ _ _ (fun h => ?_) (fun h => ?_) (fun h => ?_)
    ·have h' : T.toList = [] := by simpa using h
     have : T.data.toList.length = T.size := by simp
     rw [← toList_data, h'] at this
     simp at this
     simp only [decide_eq_true_eq]
     omega
    ·rw [List.isEmpty_iff] at h
     subst h
     simp
    ·have h' : C = 0 := by simpa using h
     subst h'
     rfl
   cases hn : nameK K with
   | true =>
    refine Ev.step (f := fun k => (impl_TagOK.f k N).bind fun t => impl_CallOK.j1 k t K D C P N T) (fun k => ?_) ?_
    ·simp only [impl_CallOK.j0]
     rw [if_neg (by decide), hasName_is, hn]
     rfl
    ·refine Ev.bind (impl_tag N hN) ?_
     have := hj1 (tagB N)
     rw [hfin] at this
     simpa using this
   | false =>
    refine Ev.step (f := fun k => impl_CallOK.j1 k (N.toList == []) K D C P N T) (fun k => ?_) ?_
    ·simp only [impl_CallOK.j0]
     rw [if_neg (by decide), hasName_is, hn]
     rfl
    ·have := hj1 (N.toList == [])
     rw [hfin] at this
     simpa using this
def wordK (K : Int) : Bs := (rdOf ByteArray.empty W10 K).data.toList
def pathT (P : List Int) : Bs := if P = [] then [45] else join (P.map itoa) [46]
def textC (K D C : Int) (P : List Int) (N T : ByteArray) : Bs :=
 wordK K ++ 32 :: (itoa D ++ ((if pathK K = true then 32 :: pathT P else []) ++ ((if nameK K = true then 32 :: N.data.toList else []) ++ ((if cfgK K = true then 32 :: itoa C else []) ++ (if textK K = true then 32 :: T.data.toList else [])))))
theorem itoa_small {d : Int} (h0 : 0 ≤ d) (h1 : d ≤ 60) : 1 ≤ (itoa d).length ∧ (itoa d).length ≤ 2 ∧ num18 (itoa d) = some d := by
 obtain ⟨n, rfl⟩ := Int.eq_ofNat_of_zero_le h0
 have hi : itoa (n : Int) = decDigits n := by unfold itoa; rw [if_neg (by omega), Int.toNat_natCast]
 have hl : 1 ≤ (decDigits n).length ∧ (decDigits n).length ≤ 2 := by
  by_cases h : n < 10
  ·rw [decDigits_base h]; simp
  ·rw [decDigits_step h, decDigits_base (by omega)]; simp
 refine ⟨by rw [hi]; exact hl.1, by rw [hi]; exact hl.2, ok_nums rfl ?_⟩
 rw [hi]
 have : (trimPrefix (decDigits n) [45]).length ≤ (decDigits n).length := by
  unfold trimPrefix
  split
  ·rw [List.length_drop]; omega
  ·exact Nat.le_refl _
 omega
theorem digits_are : ∀ (u : Nat) b, b ∈ decDigits u → 48 ≤ b.toNat ∧ b.toNat ≤ 57 := by
 intro u
 induction u using Nat.strongRecOn with
 | _ u ih =>
  intro b hb
  by_cases h : u < 10
  ·rw [decDigits_base h, List.mem_singleton] at hb
   subst hb
   simp [UInt8.toNat_ofNat]
   omega
  ·rw [decDigits_step h, List.mem_append] at hb
   rcases hb with hb | hb
   ·exact ih (u / 10) (by omega) b hb
   ·rw [List.mem_singleton] at hb
    subst hb
    simp [UInt8.toNat_ofNat]
    omega
theorem itoa_are {d : Int} (h0 : 0 ≤ d) : ∀ b ∈ itoa d, 48 ≤ b.toNat ∧ b.toNat ≤ 57 := by
 unfold itoa
 rw [if_neg (by omega)]
 exact digits_are _
theorem itoa_wordy {d : Int} (h0 : 0 ≤ d) (h1 : d ≤ 60) : wordy (itoa d) := by
 refine ⟨fun e => ?_, fun hm => ?_⟩
 ·have := (itoa_small h0 h1).1
  rw [e] at this
  simp at this
 ·have := itoa_are h0 32 hm
  simp at this
theorem okc_parts {K D C : Int} {P : List Int} {N T : ByteArray} (h : okc K D C P N T = true) :
  (1 ≤ K ∧ K ≤ 9) ∧ (0 ≤ D ∧ D ≤ 5) ∧ P.length ≤ 10 ∧ T.size ≤ 4096 ∧ (0 ≤ C ∧ C ≤ 3) ∧ (∀ i ∈ P, 0 ≤ i ∧ i ≤ 60) ∧ (nameK K = true → tagB N = true) ∧ (nameK K = false → N.data.toList = []) ∧ (pathK K = false → P = []) ∧ (cfgK K = false → C = 0) ∧ (textK K = false → T.data.toList = []) := by
 unfold okc okB inB at h
 simp only [Bool.and_eq_true, decide_eq_true_eq, Bool.or_eq_true, List.all_eq_true, beq_iff_eq, List.isEmpty_iff] at h
 obtain ⟨h1, h2, h3, h4, h5, h6, h7, h8, h9⟩ := h
 refine ⟨h1, h2, h3, h4, ?_, h8, fun e => ?_, fun e => ?_, fun e => ?_, fun e => ?_, fun e => ?_⟩
 ·cases hc : cfgK K with
  | true => rw [hc] at h5; simpa using h5
  | false => rw [hc] at h5; simp at h5; omega
 ·rw [e] at h9; simpa using h9
 ·rw [e] at h9; rw [← toList_data]; simpa using h9
 ·rw [e] at h6; simpa using h6
 ·rw [e] at h5; simpa using h5
 ·rw [e] at h7; rw [← toList_data]; simpa using h7
theorem lens_le (ws : List Bs) (h : ∀ w ∈ ws, w.length ≤ 2) : lens ws ≤ 2 * ws.length := by
 induction ws with
 | nil => simp [lens]
 | cons w r ih =>
  have h1 := h w (by simp)
  have h2 := ih (fun v hv => h v (by simp [hv]))
  simp only [lens, List.map_cons, List.sum_cons, List.length_cons] at h2 ⊢
  omega
theorem join_le (ws : List Bs) (h : ∀ w ∈ ws, w.length ≤ 2) : (join ws [46]).length ≤ 3 * ws.length := by
 cases ws with
 | nil => simp [join_nil]
 | cons w r =>
  have h1 := h w (by simp)
  have h2 := lens_le r (fun v hv => h v (by simp [hv]))
  rw [join_cons, List.length_append, joinTail_length]
  simp only [List.length_cons, List.length_nil]
  omega
theorem path_len {P : List Int} (hl : P.length ≤ 10) (hp : ∀ i ∈ P, 0 ≤ i ∧ i ≤ 60) : (pathT P).length ≤ 30 := by
 unfold pathT
 split
 ·simp
 ·have := join_le (P.map itoa) (fun w hw => by
   obtain ⟨i, hi, rfl⟩ := List.mem_map.1 hw
   exact (itoa_small (hp i hi).1 (hp i hi).2).2.1)
  rw [List.length_map] at this
  omega
theorem join_mem {c : UInt8} : ∀ {ws : List Bs} {b : UInt8}, b ∈ join ws [c] → b = c ∨ ∃ w ∈ ws, b ∈ w
 | [], b, h => by simp [join_nil] at h
 | w :: r, b, h => by
  rw [join_cons, List.mem_append] at h
  rcases h with h | h
  ·exact .inr ⟨w, by simp, h⟩
  ·unfold joinTail at h
   rw [List.mem_flatten] at h
   obtain ⟨l, hl, hb⟩ := h
   obtain ⟨v, hv, rfl⟩ := List.mem_map.1 hl
   rcases List.mem_cons.1 hb with rfl | hb
   ·exact .inl rfl
   ·exact .inr ⟨v, by simp [hv], by simpa using hb⟩
theorem path_wordy {P : List Int} (hp : ∀ i ∈ P, 0 ≤ i ∧ i ≤ 60) : wordy (pathT P) := by
 unfold pathT
 split
 ·exact ⟨by simp, by simp⟩
 ·rename_i hne
  constructor
  ·cases P with
   | nil => exact absurd rfl hne
   | cons i r =>
    rw [List.map_cons, join_cons]
    have := (itoa_wordy (hp i (by simp)).1 (hp i (by simp)).2).1
    simp [this]
  ·intro hm
   rcases join_mem hm with h | ⟨w, hw, hb⟩
   ·cases h
   ·obtain ⟨i, hi, rfl⟩ := List.mem_map.1 hw
    exact (itoa_wordy (hp i hi).1 (hp i hi).2).2 hb
theorem itoa_f {d : Int} (h0 : -9223372036854775808 ≤ d) (h1 : d ≤ 9223372036854775807) : strconv_Itoa.f d = some (mkB (itoa d)) := by
 unfold strconv_Itoa.f
 rw [if_pos ⟨h0, h1⟩]
 rfl
theorem rd_at (P : List Int) (i : Nat) (h : i < P.length) : rd P (i : Int) = P[i] := by simp [rd, List.getD_eq_getElem?_getD, h]
theorem impl_path_loop (P : List Int) (hl : P.length ≤ 10) (hp : ∀ i ∈ P, 0 ≤ i ∧ i ≤ 60) : ∀ (d i : Nat), P.length - i = d → i ≤ P.length →
  Ev (fun k => impl_pathText.l0 k ((P.take i).map fun x => mkB (itoa x)) P (P.length : Int) (i : Int)) (mkB (join (P.map itoa) [46])) := by
 intro d
 induction d with
 | zero =>
  intro i hd hi
  have e : i = P.length := by omega
  subst e
  refine Ev.step (f := fun _ => some (mkB (join (P.map itoa) [46]))) (fun k => ?_) (Ev.now _)
  simp only [impl_pathText.l0]
  rw [if_neg (by omega), List.take_length]
  have e2 : (P.map fun x => mkB (itoa x)).map (·.data.toList) = P.map itoa := by
   rw [List.map_map]
   exact List.map_congr_left (fun x _ => mkB_list _)
  have hj := join_le (P.map itoa) (fun w hw => by
   obtain ⟨i, hi, rfl⟩ := List.mem_map.1 hw
   exact (itoa_small (hp i hi).1 (hp i hi).2).2.1)
  rw [List.length_map] at hj
  unfold strings_Join.f
  rw [e2, if_pos ⟨by simp only; omega, by rw [List.length_map]; omega⟩]
  rfl
 | succ d ih =>
  intro i hd hi
  have hi' : i < P.length := by omega
  have hb := hp P[i] (List.getElem_mem _)
  refine Ev.step (fun k => ?_) (ih (i + 1) (by omega) (by omega))
  simp only [impl_pathText.l0]
  rw [if_pos (by omega), if_pos (by omega), if_pos (by omega), rd_at P i hi', itoa_f (by omega) (by omega)]
  simp only [Option.bind_some]
  rw [if_pos (by simp; omega), wrap_nat (by omega), List.take_succ_eq_append_getElem hi', List.map_append]
  rfl
theorem impl_pathT (P : List Int) (hl : P.length ≤ 10) (hp : ∀ i ∈ P, 0 ≤ i ∧ i ≤ 60) : Ev (fun k => impl_pathText.f k P) (mkB (pathT P)) := by
 unfold impl_pathText.f pathT
 by_cases h : P = []
 ·subst h
  exact Ev.congr (f := fun _ => some (mkB [45])) (fun k => by simp [mkB]) (Ev.now _)
 ·rw [if_neg h]
  have hn : 0 < P.length := List.length_pos_iff.2 h
  have := impl_path_loop P hl hp P.length 0 rfl (by omega)
  refine Ev.congr (fun k => by rw [if_neg (by omega)]) ?_
  simpa using this
theorem size_app (a b : ByteArray) : (a ++ b).size = a.size + b.size := ByteArray.size_append
theorem word_size : ∀ K : Int, 0 ≤ K → K < 10 → (rdOf ByteArray.empty W10 K).size ≤ 8 := by
 intro K h0 h1
 obtain ⟨n, rfl⟩ := Int.eq_ofNat_of_zero_le h0
 have hn : n < 10 := by omega
 have : ∀ n : Nat, n < 10 → (rdOf ByteArray.empty W10 (n : Int)).size ≤ 8 := by decide
 exact this n hn
theorem impl_text {K D C : Int} {P : List Int} {N T : ByteArray} (h : okc K D C P N T = true) : Ev (fun k => impl_callText.f k K D C P N T) (mkB (textC K D C P N T)) := by
 obtain ⟨hK, hD, hP, hT, hC, hp, hN1, hN2, -, -, -⟩ := okc_parts h
 have hN : N.size ≤ 12 := by
  cases hn : nameK K with
  | true => exact (tag_some (hN1 hn)).2.2
  | false =>
   have e := hN2 hn
   have : N.data.toList.length = N.size := by simp
   rw [e] at this
   simp at this
   omega
 have hw := word_size K (by omega) (by omega)
 have hd := itoa_small (d := D) (by omega) (by omega)
 have hc := itoa_small (d := C) (by omega) (by omega)
 have hpl := path_len hP hp
 have e10 : impl_callWords.f = some W10 := rfl
 have hlen : (W10.length : Int) = 10 := rfl
 have s1 : (⟨#[32]⟩ : ByteArray).size = 1 := rfl
 have e1 : ∀ k, impl_callText.f k K D C P N T = if pathK K = true then (impl_pathText.f k P).bind fun t => (if 1 + t.size ≤ 9223372036854775807 then (if (((rdOf ByteArray.empty W10 K) ++ (⟨#[32]⟩ : ByteArray)) ++ mkB (itoa D)).size + ((⟨#[32]⟩ : ByteArray) ++ t).size ≤ 9223372036854775807 then impl_callText.j0 k ((((rdOf ByteArray.empty W10 K) ++ (⟨#[32]⟩ : ByteArray)) ++ mkB (itoa D)) ++ ((⟨#[32]⟩ : ByteArray) ++ t)) K D C P N T else none) else none) else impl_callText.j0 k (((rdOf ByteArray.empty W10 K) ++ (⟨#[32]⟩ : ByteArray)) ++ mkB (itoa D)) K D C P N T := by
  intro k
  unfold impl_callText.f
  rw [e10]
  simp only [Option.bind_some]
  rw [if_pos (show 0 ≤ K by omega), if_pos (show K < (W10.length : Int) by rw [hlen]; omega), if_pos (show (rdOf ByteArray.empty W10 K).size + 1 ≤ 9223372036854775807 by omega), itoa_f (d := D) (by omega) (by omega)]
  simp only [Option.bind_some]
  rw [if_pos (show (rdOf ByteArray.empty W10 K ++ (⟨#[32]⟩ : ByteArray)).size + (mkB (itoa D)).size ≤ 9223372036854775807 by rw [size_app, mkB_size]; omega), hasPath_is]
  simp only [Option.bind_some]
 refine Ev.congr e1 ?_
 clear e1
 generalize hW : rdOf ByteArray.empty W10 K = W at hw
 have hj1 : ∀ X : ByteArray, X.size ≤ 100 → Ev (fun k => impl_callText.j1 k X K D C P N T) (mkB (X.data.toList ++ ((if cfgK K = true then 32 :: itoa C else []) ++ (if textK K = true then 32 :: T.data.toList else [])))) := by
  intro X hX
  refine Ev.step (f := fun _ => some (mkB (X.data.toList ++ ((if cfgK K = true then 32 :: itoa C else []) ++ (if textK K = true then 32 :: T.data.toList else []))))) (fun k => ?_) (Ev.now _)
  simp only [impl_callText.j1]
  rw [hasConfig_is, hasText_is, itoa_f (by omega) (by omega)]
  simp only [Option.bind_some]
  have c1 : 1 + (mkB (itoa C)).size ≤ 9223372036854775807 := by rw [mkB_size]; omega
  have c2 : X.size + ((⟨#[32]⟩ : ByteArray) ++ mkB (itoa C)).size ≤ 9223372036854775807 := by rw [size_app, mkB_size]; omega
  have c3 : 1 + T.size ≤ 9223372036854775807 := by omega
  have c4 : (X ++ ((⟨#[32]⟩ : ByteArray) ++ mkB (itoa C))).size + ((⟨#[32]⟩ : ByteArray) ++ T).size ≤ 9223372036854775807 := by rw [size_app, size_app, size_app, mkB_size]; omega
  have c5 : X.size + ((⟨#[32]⟩ : ByteArray) ++ T).size ≤ 9223372036854775807 := by rw [size_app]; omega
  simp only [c1, c2, c3, c4, c5, if_true]
  cases cfgK K <;> cases textK K <;> simp only [if_true, if_false, Bool.false_eq_true, Option.some.injEq] <;> (apply data_inj; simp [mkB])
 have hj0 : ∀ X : ByteArray, X.size ≤ 60 → Ev (fun k => impl_callText.j0 k X K D C P N T) (mkB (X.data.toList ++ ((if nameK K = true then 32 :: N.data.toList else []) ++ ((if cfgK K = true then 32 :: itoa C else []) ++ (if textK K = true then 32 :: T.data.toList else []))))) := by
  intro X hX
  cases hn : nameK K with
  | true =>
   refine Ev.step (fun k => ?_) (g := fun k => impl_callText.j0 k X K D C P N T) (f := fun k => impl_callText.j1 k (X ++ ((⟨#[32]⟩ : ByteArray) ++ N)) K D C P N T) ?_
   ·simp only [impl_callText.j0]
    rw [hasName_is, hn]
    simp only [Option.bind_some, if_true]
    rw [if_pos (by omega), if_pos (by rw [size_app]; omega)]
   ·have := hj1 (X ++ ((⟨#[32]⟩ : ByteArray) ++ N)) (by rw [size_app, size_app]; omega)
    simpa using this
  | false =>
   refine Ev.step (fun k => ?_) (g := fun k => impl_callText.j0 k X K D C P N T) (f := fun k => impl_callText.j1 k X K D C P N T) ?_
   ·simp only [impl_callText.j0]
    rw [hasName_is, hn]
    rfl
   ·simpa using hj1 X (by omega)
 unfold textC wordK
 rw [hW]
 cases hpk : pathK K with
 | true =>
  simp only [if_true]
  refine Ev.bind (f := fun k (t : ByteArray) => _) (impl_pathT P hP hp) ?_
  refine Ev.congr (f := fun k => impl_callText.j0 k (((W ++ (⟨#[32]⟩ : ByteArray)) ++ mkB (itoa D)) ++ ((⟨#[32]⟩ : ByteArray) ++ mkB (pathT P))) K D C P N T) (fun k => ?_) ?_
  ·rw [if_pos (by rw [mkB_size]; omega), if_pos (by rw [size_app, size_app, size_app, mkB_size, mkB_size]; omega)]
  ·have := hj0 (((W ++ (⟨#[32]⟩ : ByteArray)) ++ mkB (itoa D)) ++ ((⟨#[32]⟩ : ByteArray) ++ mkB (pathT P))) (by rw [size_app, size_app, size_app, size_app, mkB_size, mkB_size]; omega)
   simpa [mkB] using this
 | false =>
  simp only [Bool.false_eq_true, if_false]
  have := hj0 ((W ++ (⟨#[32]⟩ : ByteArray)) ++ mkB (itoa D)) (by rw [size_app, size_app, mkB_size]; omega)
  simpa [mkB] using this
end Go.Proofs.YtfjnlliilnmfaaaGreatDoor.PureCall
end
