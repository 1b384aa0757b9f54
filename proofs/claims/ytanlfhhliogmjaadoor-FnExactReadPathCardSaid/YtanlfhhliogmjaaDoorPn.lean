/-
  PLAIN: a number's text (at most 18 digits, no nought ahead, no sign ahead of a lone nought), read by digits and written back.
-/
import Derived.Lib.AtoiTie
import Derived.Lib.ItoaNum
import Derived.Lib.Strings
set_option linter.unusedVariables false
set_option linter.unusedSimpArgs false
namespace Go.Proofs.YtanlfhhliogmjaaDoor.Plain
open Go.Lib

theorem digitVal_some {b : UInt8} (h : 48 ≤ b.toNat ∧ b.toNat ≤ 57) : digitVal b = some (b.toNat - 48) := by simp [digitVal, h]
theorem digitVal_none {b : UInt8} (h : ¬ (48 ≤ b.toNat ∧ b.toNat ≤ 57)) : digitVal b = none := by simp only [digitVal]; rw [if_neg h]
theorem decFrom_snoc : ∀ (l : List UInt8) (acc : Nat) (b : UInt8), decFrom acc (l ++ [b]) = (decFrom acc l).bind fun n => (digitVal b).map fun d => n * 10 + d
  | [], acc, b => by
    simp only [List.nil_append, decFrom, Option.bind_some]
    cases digitVal b <;> rfl
  | a :: t, acc, b => by
    simp only [List.cons_append, decFrom]
    cases digitVal a with
    | none => rfl
    | some d => exact decFrom_snoc t _ b
/-- No nought ahead of another digit. -/
def neat (l : List UInt8) : Bool := match l with
  | [] => false
  | c :: r => !(c == 48) || r.isEmpty
theorem decFrom_ge : ∀ (l : List UInt8) (acc m : Nat), decFrom acc l = some m → acc ≤ m
  | [], acc, m, h => by simp only [decFrom, Option.some.injEq] at h; omega
  | a :: t, acc, m, h => by
    simp only [decFrom] at h
    cases hd : digitVal a with
    | none => simp [hd] at h
    | some d =>
      simp only [hd] at h
      have := decFrom_ge t _ m h
      omega
theorem decFrom_pos {c : UInt8} {r : List UInt8} {m : Nat} (hc : c ≠ 48) (h : decFrom 0 (c :: r) = some m) : 1 ≤ m := by
  simp only [decFrom] at h
  cases hd : digitVal c with
  | none => simp [hd] at h
  | some d =>
    simp only [hd] at h
    have h1 := decFrom_ge r _ m h
    have h2 := digitVal_eq hd
    have h3 : c.toNat ≠ 48 := fun e => hc (by apply UInt8.toNat_inj.1; simpa using e)
    omega
theorem digit_back {b : UInt8} {d : Nat} (h : digitVal b = some d) : UInt8.ofNat (48 + d) = b := by
  have h1 := digitVal_eq h
  apply UInt8.toNat_inj.1
  have : b.toNat < 256 := b.toNat_lt
  simp [UInt8.toNat_ofNat]
  omega
/-- What is read of a neat row of digits is written so. -/
theorem digits_of : ∀ (n : Nat) (l : List UInt8) (m : Nat), l.length = n → neat l = true → decFrom 0 l = some m → decDigits m = l := by
  intro n
  induction n with
  | zero =>
    intro l m hl hn h
    have : l = [] := List.eq_nil_of_length_eq_zero hl
    subst this
    cases hn
  | succ n ih =>
    intro l m hl hn h
    obtain ⟨t, b, rfl⟩ : ∃ t b, l = t ++ [b] := ⟨l.dropLast, l.getLast (by intro e; rw [e] at hl; cases hl), (List.dropLast_concat_getLast _).symm⟩
    rw [decFrom_snoc] at h
    obtain ⟨m', hm', h⟩ := Option.bind_eq_some_iff.1 h
    obtain ⟨d, hd, rfl⟩ := Option.map_eq_some_iff.1 h
    have hd9 := digitVal_eq hd
    cases t with
    | nil =>
      simp only [decFrom, Option.some.injEq] at hm'
      subst hm'
      rw [decDigits, dif_pos (by omega)]
      simp only [Nat.zero_mul, Nat.zero_add, List.nil_append]
      rw [digit_back hd]
    | cons c r =>
      have hc : c ≠ 48 := by
        intro e
        subst e
        simp [neat] at hn
      have hp := decFrom_pos hc hm'
      have hneat : neat (c :: r) = true := by
        have : (c == 48) = false := by simpa using hc
        simp [neat, this]
      have := ih (c :: r) m' (by simpa using hl) hneat hm'
      rw [decDigits, dif_neg (by omega)]
      have e1 : (m' * 10 + d) / 10 = m' := by omega
      have e2 : (m' * 10 + d) % 10 = d := by omega
      rw [e1, e2, this, digit_back hd]
theorem digit_of_small {d : Nat} (h : d < 10) : digitVal (UInt8.ofNat (48 + d)) = some d := by
  have : (UInt8.ofNat (48 + d)).toNat = 48 + d := by simp [UInt8.toNat_ofNat]; omega
  rw [digitVal_some (by omega), this]
  congr 1
  omega
theorem decDigits_step {u : Nat} (h : ¬ u < 10) : decDigits u = decDigits (u / 10) ++ [UInt8.ofNat (48 + u % 10)] := by rw [decDigits, dif_neg h]
theorem decDigits_base {u : Nat} (h : u < 10) : decDigits u = [UInt8.ofNat (48 + u)] := by rw [decDigits, dif_pos h]
/-- What is written is read back. -/
theorem read_digits (u : Nat) : decFrom 0 (decDigits u) = some u := by
  induction u using Nat.strongRecOn with
  | _ u ih =>
    by_cases h : u < 10
    · rw [decDigits_base h]
      simp only [decFrom, digit_of_small h, Nat.zero_mul, Nat.zero_add]
    · rw [decDigits_step h, decFrom_snoc, ih (u / 10) (by omega), digit_of_small (by omega)]
      simp only [Option.bind_some, Option.map_some, Option.some.injEq]
      omega
theorem digits_ne (u : Nat) : decDigits u ≠ [] := by
  by_cases h : u < 10
  · rw [decDigits_base h]; simp
  · rw [decDigits_step h]; simp
/-- What is written is neat. -/
theorem head_digits (u : Nat) (h1 : 1 ≤ u) : ∃ c r, decDigits u = c :: r ∧ c ≠ 48 ∧ 48 ≤ c.toNat ∧ c.toNat ≤ 57 := by
  induction u using Nat.strongRecOn with
  | _ u ih =>
    by_cases h : u < 10
    · have e : (UInt8.ofNat (48 + u)).toNat = 48 + u := by simp [UInt8.toNat_ofNat]; omega
      refine ⟨_, [], decDigits_base h, ?_, by omega, by omega⟩
      intro e2
      rw [e2] at e
      simp at e
      omega
    · obtain ⟨c, r, e, h2⟩ := ih (u / 10) (by omega) (by omega)
      exact ⟨c, r ++ [UInt8.ofNat (48 + u % 10)], by rw [decDigits_step h, e]; rfl, h2⟩
theorem neat_digits (u : Nat) : neat (decDigits u) = true := by
  rcases Nat.eq_zero_or_pos u with rfl | h
  · rw [decDigits_base (by decide)]; rfl
  · obtain ⟨c, r, e, h2, _⟩ := head_digits u h
    rw [e]
    have : (c == 48) = false := by simpa using h2
    simp [neat, this]
theorem head_digit (u : Nat) : ∃ c r, decDigits u = c :: r ∧ 48 ≤ c.toNat ∧ c.toNat ≤ 57 := by
  rcases Nat.eq_zero_or_pos u with rfl | h
  · exact ⟨48, [], by rw [decDigits_base (by decide)]; rfl, by decide, by decide⟩
  · obtain ⟨c, r, e, _, h2⟩ := head_digits u h
    exact ⟨c, r, e, h2⟩

/-- A number's text. -/
def num18 : List UInt8 → Option Int
  | [] => none
  | c :: r =>
    if c = 45 then (if (decide (r.length ≤ 18) && neat r && !(r.head? == some 48)) = true then (decFrom 0 r).map (fun (m : Nat) => -(m : Int)) else none)
    else if (decide ((c :: r).length ≤ 18) && neat (c :: r)) = true then (decFrom 0 (c :: r)).map (fun (m : Nat) => (m : Int)) else none

theorem nums_ok {l : List UInt8} {v : Int} (h : num18 l = some v) : atoiAll l = .ok v ∧ itoa v = l ∧ (trimPrefix l [45]).length ≤ 18 := by
  cases l with
  | nil => cases h
  | cons c r =>
    simp only [num18] at h
    by_cases hc : c = 45
    · subst hc
      rw [if_pos rfl] at h
      split at h
      · rename_i hh
        simp only [Bool.and_eq_true, decide_eq_true_eq, Bool.not_eq_true'] at hh
        obtain ⟨⟨hl, hn⟩, hz⟩ := hh
        obtain ⟨m, hm, rfl⟩ := Option.map_eq_some_iff.1 h
        have hr : r ≠ [] := by rintro rfl; cases hn
        have hd : decNat r = some m := by
          unfold decNat
          cases r with
          | nil => exact absurd rfl hr
          | cons a b => simpa using hm
        have hp : 1 ≤ m := by
          cases r with
          | nil => exact absurd rfl hr
          | cons a b => exact decFrom_pos (fun e => by rw [e] at hz; simp at hz) hm
        refine ⟨?_, ?_, ?_⟩
        · rw [atoiAll_minus, signed_short hl, hd]
          rfl
        · unfold itoa
          rw [if_pos (by omega)]
          have : (-(m : Int)).natAbs = m := by omega
          rw [this, digits_of r.length r m rfl hn hm]
        · simpa [trimPrefix, hasPrefix, List.isPrefixOf] using hl
      · cases h
    · rw [if_neg hc] at h
      split at h
      · rename_i hh
        simp only [Bool.and_eq_true, decide_eq_true_eq] at hh
        obtain ⟨hl, hn⟩ := hh
        obtain ⟨m, hm, rfl⟩ := Option.map_eq_some_iff.1 h
        have hdig : 48 ≤ c.toNat ∧ c.toNat ≤ 57 := by
          obtain ⟨d, hd⟩ := digit_of_decFrom (c :: r) 0 m hm 0 c rfl
          have := digitVal_eq hd
          omega
        have hd : decNat (c :: r) = some m := by simpa [decNat] using hm
        refine ⟨?_, ?_, ?_⟩
        · rw [atoiAll_plain c r (by omega) (by omega), signless_short hl, hd]
          rfl
        · unfold itoa
          rw [if_neg (by omega), Int.toNat_natCast, digits_of (c :: r).length (c :: r) m rfl hn hm]
        · have : (45 == c) = false := by simpa using fun e : 45 = c => hc e.symm
          simpa [trimPrefix, hasPrefix, List.isPrefixOf, this] using hl
      · cases h
theorem ok_nums {l : List UInt8} {v : Int} (hi : itoa v = l) (ht : (trimPrefix l [45]).length ≤ 18) : num18 l = some v := by
  subst hi
  unfold itoa at ht ⊢
  by_cases hv : v < 0
  · rw [if_pos hv] at ht ⊢
    have hm : 1 ≤ v.natAbs := by omega
    obtain ⟨c, r, e, h1, h2, h3⟩ := head_digits v.natAbs hm
    have hl : (decDigits v.natAbs).length ≤ 18 := by simpa [trimPrefix, hasPrefix, List.isPrefixOf] using ht
    have hz : ((decDigits v.natAbs).head? == some 48) = false := by rw [e]; simpa using h1
    simp only [num18, if_true]
    rw [if_pos (by simp [hl, neat_digits, hz]), read_digits]
    simp only [Option.map_some, Option.some.injEq]
    omega
  · rw [if_neg hv] at ht ⊢
    obtain ⟨c, r, e, h2, h3⟩ := head_digit v.toNat
    have hc : c ≠ 45 := by rintro rfl; simp at h2
    have hcb : (45 == c) = false := by simpa using fun e : 45 = c => hc e.symm
    have hl : (decDigits v.toNat).length ≤ 18 := by
      have ht' := ht
      rw [e] at ht' ⊢
      simpa [trimPrefix, hasPrefix, List.isPrefixOf, hcb] using ht'
    have hn := neat_digits v.toNat
    have hd := read_digits v.toNat
    rw [e] at hl hn hd ⊢
    simp only [num18]
    rw [if_neg hc, if_pos (by simp [hn]; simpa using hl), hd]
    simp only [Option.map_some, Option.some.injEq]
    omega
end Go.Proofs.YtanlfhhliogmjaaDoor.Plain
