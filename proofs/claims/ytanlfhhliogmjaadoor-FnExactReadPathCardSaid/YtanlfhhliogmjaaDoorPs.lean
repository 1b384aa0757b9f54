/-
  PLAIN: a text parted at each of one byte: by strings.Split's own words (splitB) and by a loop over its bytes.
-/
import Derived.Lib.SplitLaws
import Derived.Lib.IndexBytes
import Derived.Test.YtanlfhhliogmjaaDoorWWords
set_option linter.unusedVariables false
set_option linter.unusedSimpArgs false
namespace Go.Proofs.YtanlfhhliogmjaaDoor.Plain
open Go Go.Lib Go.Proofs.YtanlfhhliogmjaaDoorW.PrintWords Go.RowKit

/-- What stands between the bytes c. -/
def pcs (c : UInt8) : List UInt8 → List (List UInt8)
  | [] => [[]]
  | b :: r => if b = c then [] :: pcs c r else match pcs c r with
    | [] => [[b]]
    | p :: q => (b :: p) :: q
theorem pcs_ne (c : UInt8) : ∀ l, pcs c l ≠ []
  | [] => by simp [pcs]
  | b :: r => by
    unfold pcs
    split
    · simp
    · split <;> simp
theorem index_one_eq (c : UInt8) (l : List UInt8) : index (c :: l) [c] = 0 := by rw [index]; simp [List.isPrefixOf]
theorem index_one_ne {b c : UInt8} (h : b ≠ c) (l : List UInt8) : index (b :: l) [c] = if index l [c] == -1 then -1 else index l [c] + 1 := by
  have hp : ([c] : List UInt8).isPrefixOf (b :: l) = false := by simp [List.isPrefixOf, Ne.symm h]
  rw [index, hp]
  simp
theorem index_pos {c : UInt8} : ∀ {l : List UInt8}, l.count c ≠ 0 → 0 ≤ index l [c]
  | [], h => by simp at h
  | b :: l, h => by
    by_cases hb : b = c
    · subst hb; rw [index_one_eq]; exact Int.le_refl _
    · rw [index_one_ne hb]
      have := index_pos (c := c) (l := l) (by simpa [List.count_cons, hb] using h)
      rw [if_neg (by simp; omega)]
      omega
theorem splitK_pcs (c : UInt8) : ∀ l : List UInt8, splitK [c] 0 (l.count c) l = pcs c l
  | [] => rfl
  | b :: l => by
    have ih := splitK_pcs c l
    by_cases hb : b = c
    · subst hb
      rw [List.count_cons_self, splitK, index_one_eq, if_neg (by decide)]
      simp only [pcs, if_true]
      rw [← ih]
      rfl
    · have hcount : (b :: l).count c = l.count c := by simp [List.count_cons, hb]
      rw [hcount]
      simp only [pcs, hb, if_false]
      rw [← ih]
      rcases Nat.eq_zero_or_pos (l.count c) with h0 | h0
      · rw [h0]
        simp [splitK]
      · obtain ⟨k, hk⟩ : ∃ k, l.count c = k + 1 := ⟨l.count c - 1, by omega⟩
        have hix := index_pos (c := c) (l := l) (by omega)
        rw [hk]
        simp only [splitK]
        have e1 : index (b :: l) [c] = index l [c] + 1 := by
          rw [index_one_ne hb, if_neg (by simp; omega)]
        rw [e1, if_neg (by simp; omega), if_neg (by simp; omega)]
        obtain ⟨i, hi⟩ : ∃ i : Nat, index l [c] = i := ⟨(index l [c]).toNat, by omega⟩
        rw [hi]
        have e2 : ((i : Int) + 1).toNat = i + 1 := by omega
        rw [e2]
        simp
theorem splitB_pcs (s : ByteArray) (c : UInt8) : (splitB ⟨#[c]⟩ 0 (countB s ⟨#[c]⟩) s).map (·.data.toList) = pcs c s.data.toList := by
  rw [splitB_data, ← splitK_pcs]
  have : countB s ⟨#[c]⟩ = s.data.toList.count c := count_one c s.data.toList
  rw [this]
theorem data_inj {a b : ByteArray} (h : a.data.toList = b.data.toList) : a = b := by
  cases a with
  | mk da => cases b with
    | mk db =>
      have : da = db := Array.toList_inj.1 h
      rw [this]
theorem map_data_inj {a b : List ByteArray} (h : a.map (·.data.toList) = b.map (·.data.toList)) : a = b := (List.map_inj_right (fun _ _ e => data_inj e)).1 h
def addHead (p : List UInt8) : List (List UInt8) → List (List UInt8)
  | [] => []
  | q :: r => (p ++ q) :: r
theorem addHead_nil : ∀ l, addHead [] l = l
  | [] => rfl
  | _ :: _ => rfl
theorem pcs_step_eq (c : UInt8) (p r : List UInt8) : addHead p (pcs c (c :: r)) = p :: pcs c r := by simp [pcs, addHead]
theorem pcs_step_ne {b c : UInt8} (h : b ≠ c) (p r : List UInt8) : addHead p (pcs c (b :: r)) = addHead (p ++ [b]) (pcs c r) := by
  simp only [pcs, h, if_false]
  cases e : pcs c r with
  | nil => exact absurd e (pcs_ne c r)
  | cons q t => simp [addHead]
theorem wrap_nat {i : Nat} (h : i + 1 < 9223372036854775808) : wrap64 ((i : Int) + 1) = ((i + 1 : Nat) : Int) := by
  unfold wrap64
  omega
theorem bt_nat (s : ByteArray) (i : Nat) (h : i < s.size) : bt s (i : Int) = ((s.data.toList[i]'(by simpa using h)).toNat : Int) := by
  unfold bt
  rw [dif_pos (by simpa using h)]
  rfl
theorem drop_at (s : ByteArray) (i : Nat) (h : i < s.size) : s.data.toList.drop i = (s.data.toList[i]'(by simpa using h)) :: s.data.toList.drop (i + 1) := List.drop_eq_getElem_cons _
theorem extract_list (s : ByteArray) (a b : Nat) : (s.extract a b).data.toList = (s.data.toList.drop a).take (b - a) := by
  rw [ByteArray.data_extract, Array.toList_extract, List.extract_eq_drop_take', List.drop_take]
end Go.Proofs.YtanlfhhliogmjaaDoor.Plain
