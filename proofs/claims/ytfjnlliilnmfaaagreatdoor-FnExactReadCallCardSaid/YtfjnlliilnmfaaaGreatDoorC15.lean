/-
  WRITTEN BY wip/tools/prune.py out of this claim's texts: the declarations that the theorem comes to, and no others. In it: Pw.
-/
import Derived.Test.YtfjnlliilnmfaaaGreatDoorC14
section
set_option linter.unusedVariables false
set_option linter.unusedSimpArgs false
namespace Go.Proofs.YtfjnlliilnmfaaaGreatDoor.PureRead
open Go Go.Lib Go.RowKit Go.Proofs.YtfjnlliilnmfaaaGreatDoor.PRCa Go.Proofs.YtfjnlliilnmfaaaGreatDoor.RC Go.Proofs.YtfjnlliilnmfaaaGreatDoor.RF Go.Proofs.YtfjnlliilnmfaaaGreatDoor.PureNum Go.Proofs.YtfjnlliilnmfaaaGreatDoor.PureTag Go.Proofs.YtfjnlliilnmfaaaGreatDoor.PureBlank Go.Proofs.YtfjnlliilnmfaaaGreatDoor.PureCall Go.Proofs.YtfjnlliilnmfaaaGreatDoorW.PrintWords Go.Proofs.YtfjnlliilnmfaaaGreatDoorW.PrintLast Go.Proofs.YtfjnlliilnmfaaaGreatDoorW.PrintMore Go.Proofs.YtfjnlliilnmfaaaGreatDoor.Given Go.Proofs.YtfjnlliilnmfaaaGreatDoor.Plain
abbrev C6 := Int × Int × Int × List Int × ByteArray × ByteArray
abbrev C7 := Int × Int × Int × List Int × ByteArray × ByteArray × Bool
def toldC (r : C7) : Option C6 := if r.2.2.2.2.2.2 = true then some (r.1, r.2.1, r.2.2.1, r.2.2.2.1, r.2.2.2.2.1, r.2.2.2.2.2.1) else none
def finS (K : Int) (D C : Int × Bool) (P : List Int × Bool) (N : ByteArray) (R : ByteArray) : Option C6 :=
 if (D.2 && (C.2 && (P.2 && okc K D.1 C.1 P.1 N R))) = true then some (K, D.1, C.1, P.1, N, R) else none
def Le9 (k : Nat) (t : ByteArray) (K : Int) : Option C7 := spec_l12ReadCall.l0 k t 9 K 0 0 [] (⟨#[]⟩ : ByteArray) (⟨#[]⟩ : ByteArray)
theorem l9_none (t : ByteArray) : Ev (fun k => Le9 k t 0) (0, 0, 0, [], ⟨#[]⟩, ⟨#[]⟩, false) :=
 Ev.step (f := fun _ => some (0, 0, 0, [], ⟨#[]⟩, ⟨#[]⟩, false)) (fun k => by unfold Le9; simp only [spec_l12ReadCall.l0]; rfl) (Ev.now _)
theorem parts_1 : spec_l12Parts.f 1 = some (3, false) := by first | rfl | kernel_rfl | simp [spec_l12Parts.f, wrap64, rd]
theorem l9_1 (k : Nat) (t : ByteArray) : Le9 (k + 1) t 1 = (spec_l12Head.f k t 3 false).bind fun b => if b.2.2 = true then (if 1 < (b.1.length : Int) then (spec_l00Number.f k (rdOf ByteArray.empty b.1 1)).bind fun c => spec_l12ReadCall.j1 k 3 b.1 b.2.2 c.2 1 false 1 c.1 0 [] (⟨#[]⟩ : ByteArray) b.2.1 else none) else some (1, 0, 0, [], (⟨#[]⟩ : ByteArray), (⟨#[]⟩ : ByteArray), false) := by
 unfold Le9
 simp only [spec_l12ReadCall.l0]
 rw [if_neg (by decide), if_neg (by decide), parts_1]
 simp only [Option.bind_some]
 rfl
theorem kind_1 (t : ByteArray) (hs : t.size ≤ 65536) (w0 w1 w2 : Bs) (rest : Bs) (h : headW 3 false t.data.toList = some ([w0, w1, w2], rest)) (hz : ∀ w ∈ [w0, w1, w2], w.length ≤ 65536) : ∃ r, Ev (fun k => Le9 k t 1) r ∧ toldC r = finS 1 (numRes w1) (((0 : Int), true)) ((([] : List Int), true)) (mkB w2) (mkB rest) := by
 have hH := (spec_head 3 false (by decide) t (by omega)).1 _ _ h
 simp only [List.map_cons, List.map_nil] at hH
 have hN := spec_number (mkB w1)
 rw [mkB_list] at hN
 generalize numRes w1 = D at hN ⊢
 obtain ⟨D, fD⟩ := D
 have hO := spec_ok 1 D 0 ([] : List Int) (mkB w2) (mkB rest) (by rw [mkB_size]; have := hz w2 (by simp); omega)
 refine ⟨(1, D, 0, ([] : List Int), mkB w2, mkB rest, fD && (true && (true && okc 1 D 0 ([] : List Int) (mkB w2) (mkB rest)))), ?_, rfl⟩
 refine Ev.step (l9_1 · t) (Ev.bind hH ?_)
 refine Ev.congr (f := fun k => (spec_l00Number.f k (mkB w1)).bind fun c => spec_l12ReadCall.j1 k 3 [mkB w0, mkB w1, mkB w2] true c.2 1 false 1 c.1 0 [] (⟨#[]⟩ : ByteArray) (mkB rest)) (fun k => rfl) (Ev.bind hN ?_)
 refine Ev.step (f := fun k => spec_l12ReadCall.j2 k 3 [mkB w0, mkB w1, mkB w2] true fD 1 false 1 D 0 [] (⟨#[]⟩ : ByteArray) (mkB rest)) (fun k => rfl) ?_
 refine Ev.step (f := fun k => if fD = true then ((spec_l10Call.f k 1 D 0 ([] : List Int) (mkB w2) (mkB rest)).bind fun z => some (1, D, 0, ([] : List Int), mkB w2, mkB rest, z)) else some (1, D, 0, ([] : List Int), mkB w2, mkB rest, false)) (fun k => rfl) ?_
 cases fD <;> first | exact Ev.now _ | exact Ev.bind hO (Ev.now _)
theorem miss_1 (t : ByteArray) (hs : t.size ≤ 65536) (h : headW 3 false t.data.toList = none) : ∃ r, Ev (fun k => Le9 k t 1) r ∧ toldC r = none := by
 obtain ⟨q, hq, hf⟩ := (spec_head 3 false (by decide) t (by omega)).2 h
 refine ⟨(1, 0, 0, [], (⟨#[]⟩ : ByteArray), (⟨#[]⟩ : ByteArray), false), Ev.step (l9_1 · t) (Ev.bind hq ?_), rfl⟩
 exact Ev.congr (fun k => by rw [if_neg (by rw [hf]; decide)]) (Ev.now _)
theorem parts_2 : spec_l12Parts.f 2 = some (4, false) := by first | rfl | kernel_rfl | simp [spec_l12Parts.f, wrap64, rd]
theorem l9_2 (k : Nat) (t : ByteArray) : Le9 (k + 1) t 2 = (spec_l12Head.f k t 4 false).bind fun b => if b.2.2 = true then (if 1 < (b.1.length : Int) then (spec_l00Number.f k (rdOf ByteArray.empty b.1 1)).bind fun c => spec_l12ReadCall.j1 k 4 b.1 b.2.2 c.2 2 true 2 c.1 0 [] (⟨#[]⟩ : ByteArray) b.2.1 else none) else some (2, 0, 0, [], (⟨#[]⟩ : ByteArray), (⟨#[]⟩ : ByteArray), false) := by
 unfold Le9
 simp only [spec_l12ReadCall.l0]
 rw [if_neg (by decide), if_neg (by decide), parts_2]
 simp only [Option.bind_some]
 rfl
theorem kind_2 (t : ByteArray) (hs : t.size ≤ 65536) (w0 w1 w2 w3 : Bs) (rest : Bs) (h : headW 4 false t.data.toList = some ([w0, w1, w2, w3], rest)) (hz : ∀ w ∈ [w0, w1, w2, w3], w.length ≤ 65536) : ∃ r, Ev (fun k => Le9 k t 2) r ∧ toldC r = finS 2 (numRes w1) (((0 : Int), true)) (specP (mkB w2)) (mkB w3) (mkB rest) := by
 have hH := (spec_head 4 false (by decide) t (by omega)).1 _ _ h
 simp only [List.map_cons, List.map_nil] at hH
 have hN := spec_number (mkB w1)
 rw [mkB_list] at hN
 have hP := spec_readPath (mkB w2) (by rw [mkB_size]; have := hz w2 (by simp); omega)
 generalize numRes w1 = D at hN ⊢
 obtain ⟨D, fD⟩ := D
 generalize specP (mkB w2) = P at hP ⊢
 obtain ⟨P, fP⟩ := P
 have hO := spec_ok 2 D 0 P (mkB w3) (mkB rest) (by rw [mkB_size]; have := hz w3 (by simp); omega)
 refine ⟨(2, D, 0, P, mkB w3, mkB rest, fD && (true && (fP && okc 2 D 0 P (mkB w3) (mkB rest)))), ?_, rfl⟩
 refine Ev.step (l9_2 · t) (Ev.bind hH ?_)
 refine Ev.congr (f := fun k => (spec_l00Number.f k (mkB w1)).bind fun c => spec_l12ReadCall.j1 k 4 [mkB w0, mkB w1, mkB w2, mkB w3] true c.2 2 true 2 c.1 0 [] (⟨#[]⟩ : ByteArray) (mkB rest)) (fun k => rfl) (Ev.bind hN ?_)
 refine Ev.step (f := fun k => (spec_l12ReadPath.f k (mkB w2)).bind fun q => if q.2 = true then (if fD = true then (spec_l10Call.f k 2 D 0 q.1 (mkB w3) (mkB rest)).bind fun z => some (2, D, 0, q.1, mkB w3, mkB rest, z) else some (2, D, 0, q.1, mkB w3, mkB rest, false)) else some (2, D, 0, q.1, mkB w3, mkB rest, false)) (fun k => rfl) (Ev.bind hP ?_)
 cases fD <;> cases fP <;> first | exact Ev.now _ | exact Ev.bind hO (Ev.now _)
theorem miss_2 (t : ByteArray) (hs : t.size ≤ 65536) (h : headW 4 false t.data.toList = none) : ∃ r, Ev (fun k => Le9 k t 2) r ∧ toldC r = none := by
 obtain ⟨q, hq, hf⟩ := (spec_head 4 false (by decide) t (by omega)).2 h
 refine ⟨(2, 0, 0, [], (⟨#[]⟩ : ByteArray), (⟨#[]⟩ : ByteArray), false), Ev.step (l9_2 · t) (Ev.bind hq ?_), rfl⟩
 exact Ev.congr (fun k => by rw [if_neg (by rw [hf]; decide)]) (Ev.now _)
theorem parts_3 : spec_l12Parts.f 3 = some (3, true) := by first | rfl | kernel_rfl | simp [spec_l12Parts.f, wrap64, rd]
theorem l9_3 (k : Nat) (t : ByteArray) : Le9 (k + 1) t 3 = (spec_l12Head.f k t 3 true).bind fun b => if b.2.2 = true then (if 1 < (b.1.length : Int) then (spec_l00Number.f k (rdOf ByteArray.empty b.1 1)).bind fun c => spec_l12ReadCall.j1 k 3 b.1 b.2.2 c.2 3 true 3 c.1 0 [] (⟨#[]⟩ : ByteArray) b.2.1 else none) else some (3, 0, 0, [], (⟨#[]⟩ : ByteArray), (⟨#[]⟩ : ByteArray), false) := by
 unfold Le9
 simp only [spec_l12ReadCall.l0]
 rw [if_neg (by decide), if_neg (by decide), parts_3]
 simp only [Option.bind_some]
 rfl
theorem kind_3 (t : ByteArray) (hs : t.size ≤ 65536) (w0 w1 w2 : Bs) (rest : Bs) (h : headW 3 true t.data.toList = some ([w0, w1, w2], rest)) (hz : ∀ w ∈ [w0, w1, w2], w.length ≤ 65536) : ∃ r, Ev (fun k => Le9 k t 3) r ∧ toldC r = finS 3 (numRes w1) (((0 : Int), true)) (specP (mkB w2)) ((⟨#[]⟩ : ByteArray)) (mkB rest) := by
 have hH := (spec_head 3 true (by decide) t (by omega)).1 _ _ h
 simp only [List.map_cons, List.map_nil] at hH
 have hN := spec_number (mkB w1)
 rw [mkB_list] at hN
 have hP := spec_readPath (mkB w2) (by rw [mkB_size]; have := hz w2 (by simp); omega)
 generalize numRes w1 = D at hN ⊢
 obtain ⟨D, fD⟩ := D
 generalize specP (mkB w2) = P at hP ⊢
 obtain ⟨P, fP⟩ := P
 have hO := spec_ok 3 D 0 P ((⟨#[]⟩ : ByteArray)) (mkB rest) (by decide)
 refine ⟨(3, D, 0, P, (⟨#[]⟩ : ByteArray), mkB rest, fD && (true && (fP && okc 3 D 0 P ((⟨#[]⟩ : ByteArray)) (mkB rest)))), ?_, rfl⟩
 refine Ev.step (l9_3 · t) (Ev.bind hH ?_)
 refine Ev.congr (f := fun k => (spec_l00Number.f k (mkB w1)).bind fun c => spec_l12ReadCall.j1 k 3 [mkB w0, mkB w1, mkB w2] true c.2 3 true 3 c.1 0 [] (⟨#[]⟩ : ByteArray) (mkB rest)) (fun k => rfl) (Ev.bind hN ?_)
 refine Ev.step (f := fun k => (spec_l12ReadPath.f k (mkB w2)).bind fun q => if q.2 = true then (if fD = true then (spec_l10Call.f k 3 D 0 q.1 ((⟨#[]⟩ : ByteArray)) (mkB rest)).bind fun z => some (3, D, 0, q.1, (⟨#[]⟩ : ByteArray), mkB rest, z) else some (3, D, 0, q.1, (⟨#[]⟩ : ByteArray), mkB rest, false)) else some (3, D, 0, q.1, (⟨#[]⟩ : ByteArray), mkB rest, false)) (fun k => rfl) (Ev.bind hP ?_)
 cases fD <;> cases fP <;> first | exact Ev.now _ | exact Ev.bind hO (Ev.now _)
theorem miss_3 (t : ByteArray) (hs : t.size ≤ 65536) (h : headW 3 true t.data.toList = none) : ∃ r, Ev (fun k => Le9 k t 3) r ∧ toldC r = none := by
 obtain ⟨q, hq, hf⟩ := (spec_head 3 true (by decide) t (by omega)).2 h
 refine ⟨(3, 0, 0, [], (⟨#[]⟩ : ByteArray), (⟨#[]⟩ : ByteArray), false), Ev.step (l9_3 · t) (Ev.bind hq ?_), rfl⟩
 exact Ev.congr (fun k => by rw [if_neg (by rw [hf]; decide)]) (Ev.now _)
theorem parts_4 : spec_l12Parts.f 4 = some (4, true) := by first | rfl | kernel_rfl | simp [spec_l12Parts.f, wrap64, rd]
theorem l9_4 (k : Nat) (t : ByteArray) : Le9 (k + 1) t 4 = (spec_l12Head.f k t 4 true).bind fun b => if b.2.2 = true then (if 1 < (b.1.length : Int) then (spec_l00Number.f k (rdOf ByteArray.empty b.1 1)).bind fun c => spec_l12ReadCall.j1 k 4 b.1 b.2.2 c.2 4 true 4 c.1 0 [] (⟨#[]⟩ : ByteArray) b.2.1 else none) else some (4, 0, 0, [], (⟨#[]⟩ : ByteArray), (⟨#[]⟩ : ByteArray), false) := by
 unfold Le9
 simp only [spec_l12ReadCall.l0]
 rw [if_neg (by decide), if_neg (by decide), parts_4]
 simp only [Option.bind_some]
 rfl
theorem kind_4 (t : ByteArray) (hs : t.size ≤ 65536) (w0 w1 w2 w3 : Bs) (rest : Bs) (h : headW 4 true t.data.toList = some ([w0, w1, w2, w3], rest)) (hz : ∀ w ∈ [w0, w1, w2, w3], w.length ≤ 65536) : ∃ r, Ev (fun k => Le9 k t 4) r ∧ toldC r = finS 4 (numRes w1) (((0 : Int), true)) (specP (mkB w2)) (mkB w3) (mkB rest) := by
 have hH := (spec_head 4 true (by decide) t (by omega)).1 _ _ h
 simp only [List.map_cons, List.map_nil] at hH
 have hN := spec_number (mkB w1)
 rw [mkB_list] at hN
 have hP := spec_readPath (mkB w2) (by rw [mkB_size]; have := hz w2 (by simp); omega)
 generalize numRes w1 = D at hN ⊢
 obtain ⟨D, fD⟩ := D
 generalize specP (mkB w2) = P at hP ⊢
 obtain ⟨P, fP⟩ := P
 have hO := spec_ok 4 D 0 P (mkB w3) (mkB rest) (by rw [mkB_size]; have := hz w3 (by simp); omega)
 refine ⟨(4, D, 0, P, mkB w3, mkB rest, fD && (true && (fP && okc 4 D 0 P (mkB w3) (mkB rest)))), ?_, rfl⟩
 refine Ev.step (l9_4 · t) (Ev.bind hH ?_)
 refine Ev.congr (f := fun k => (spec_l00Number.f k (mkB w1)).bind fun c => spec_l12ReadCall.j1 k 4 [mkB w0, mkB w1, mkB w2, mkB w3] true c.2 4 true 4 c.1 0 [] (⟨#[]⟩ : ByteArray) (mkB rest)) (fun k => rfl) (Ev.bind hN ?_)
 refine Ev.step (f := fun k => (spec_l12ReadPath.f k (mkB w2)).bind fun q => if q.2 = true then (if fD = true then (spec_l10Call.f k 4 D 0 q.1 (mkB w3) (mkB rest)).bind fun z => some (4, D, 0, q.1, mkB w3, mkB rest, z) else some (4, D, 0, q.1, mkB w3, mkB rest, false)) else some (4, D, 0, q.1, mkB w3, mkB rest, false)) (fun k => rfl) (Ev.bind hP ?_)
 cases fD <;> cases fP <;> first | exact Ev.now _ | exact Ev.bind hO (Ev.now _)
theorem miss_4 (t : ByteArray) (hs : t.size ≤ 65536) (h : headW 4 true t.data.toList = none) : ∃ r, Ev (fun k => Le9 k t 4) r ∧ toldC r = none := by
 obtain ⟨q, hq, hf⟩ := (spec_head 4 true (by decide) t (by omega)).2 h
 refine ⟨(4, 0, 0, [], (⟨#[]⟩ : ByteArray), (⟨#[]⟩ : ByteArray), false), Ev.step (l9_4 · t) (Ev.bind hq ?_), rfl⟩
 exact Ev.congr (fun k => by rw [if_neg (by rw [hf]; decide)]) (Ev.now _)
theorem parts_5 : spec_l12Parts.f 5 = some (3, false) := by first | rfl | kernel_rfl | simp [spec_l12Parts.f, wrap64, rd]
theorem l9_5 (k : Nat) (t : ByteArray) : Le9 (k + 1) t 5 = (spec_l12Head.f k t 3 false).bind fun b => if b.2.2 = true then (if 1 < (b.1.length : Int) then (spec_l00Number.f k (rdOf ByteArray.empty b.1 1)).bind fun c => spec_l12ReadCall.j1 k 3 b.1 b.2.2 c.2 5 true 5 c.1 0 [] (⟨#[]⟩ : ByteArray) b.2.1 else none) else some (5, 0, 0, [], (⟨#[]⟩ : ByteArray), (⟨#[]⟩ : ByteArray), false) := by
 unfold Le9
 simp only [spec_l12ReadCall.l0]
 rw [if_neg (by decide), if_neg (by decide), parts_5]
 simp only [Option.bind_some]
 rfl
theorem kind_5 (t : ByteArray) (hs : t.size ≤ 65536) (w0 w1 w2 : Bs) (rest : Bs) (h : headW 3 false t.data.toList = some ([w0, w1, w2], rest)) (hz : ∀ w ∈ [w0, w1, w2], w.length ≤ 65536) : ∃ r, Ev (fun k => Le9 k t 5) r ∧ toldC r = finS 5 (numRes w1) (((0 : Int), true)) (specP (mkB w2)) ((⟨#[]⟩ : ByteArray)) (mkB rest) := by
 have hH := (spec_head 3 false (by decide) t (by omega)).1 _ _ h
 simp only [List.map_cons, List.map_nil] at hH
 have hN := spec_number (mkB w1)
 rw [mkB_list] at hN
 have hP := spec_readPath (mkB w2) (by rw [mkB_size]; have := hz w2 (by simp); omega)
 generalize numRes w1 = D at hN ⊢
 obtain ⟨D, fD⟩ := D
 generalize specP (mkB w2) = P at hP ⊢
 obtain ⟨P, fP⟩ := P
 have hO := spec_ok 5 D 0 P ((⟨#[]⟩ : ByteArray)) (mkB rest) (by decide)
 refine ⟨(5, D, 0, P, (⟨#[]⟩ : ByteArray), mkB rest, fD && (true && (fP && okc 5 D 0 P ((⟨#[]⟩ : ByteArray)) (mkB rest)))), ?_, rfl⟩
 refine Ev.step (l9_5 · t) (Ev.bind hH ?_)
 refine Ev.congr (f := fun k => (spec_l00Number.f k (mkB w1)).bind fun c => spec_l12ReadCall.j1 k 3 [mkB w0, mkB w1, mkB w2] true c.2 5 true 5 c.1 0 [] (⟨#[]⟩ : ByteArray) (mkB rest)) (fun k => rfl) (Ev.bind hN ?_)
 refine Ev.step (f := fun k => (spec_l12ReadPath.f k (mkB w2)).bind fun q => if q.2 = true then (if fD = true then (spec_l10Call.f k 5 D 0 q.1 ((⟨#[]⟩ : ByteArray)) (mkB rest)).bind fun z => some (5, D, 0, q.1, (⟨#[]⟩ : ByteArray), mkB rest, z) else some (5, D, 0, q.1, (⟨#[]⟩ : ByteArray), mkB rest, false)) else some (5, D, 0, q.1, (⟨#[]⟩ : ByteArray), mkB rest, false)) (fun k => rfl) (Ev.bind hP ?_)
 cases fD <;> cases fP <;> first | exact Ev.now _ | exact Ev.bind hO (Ev.now _)
theorem miss_5 (t : ByteArray) (hs : t.size ≤ 65536) (h : headW 3 false t.data.toList = none) : ∃ r, Ev (fun k => Le9 k t 5) r ∧ toldC r = none := by
 obtain ⟨q, hq, hf⟩ := (spec_head 3 false (by decide) t (by omega)).2 h
 refine ⟨(5, 0, 0, [], (⟨#[]⟩ : ByteArray), (⟨#[]⟩ : ByteArray), false), Ev.step (l9_5 · t) (Ev.bind hq ?_), rfl⟩
 exact Ev.congr (fun k => by rw [if_neg (by rw [hf]; decide)]) (Ev.now _)
theorem parts_6 : spec_l12Parts.f 6 = some (3, true) := by first | rfl | kernel_rfl | simp [spec_l12Parts.f, wrap64, rd]
theorem l9_6 (k : Nat) (t : ByteArray) : Le9 (k + 1) t 6 = (spec_l12Head.f k t 3 true).bind fun b => if b.2.2 = true then (if 1 < (b.1.length : Int) then (spec_l00Number.f k (rdOf ByteArray.empty b.1 1)).bind fun c => spec_l12ReadCall.j1 k 3 b.1 b.2.2 c.2 6 false 6 c.1 0 [] (⟨#[]⟩ : ByteArray) b.2.1 else none) else some (6, 0, 0, [], (⟨#[]⟩ : ByteArray), (⟨#[]⟩ : ByteArray), false) := by
 unfold Le9
 simp only [spec_l12ReadCall.l0]
 rw [if_neg (by decide), if_neg (by decide), parts_6]
 simp only [Option.bind_some]
 rfl
theorem kind_6 (t : ByteArray) (hs : t.size ≤ 65536) (w0 w1 w2 : Bs) (rest : Bs) (h : headW 3 true t.data.toList = some ([w0, w1, w2], rest)) (hz : ∀ w ∈ [w0, w1, w2], w.length ≤ 65536) : ∃ r, Ev (fun k => Le9 k t 6) r ∧ toldC r = finS 6 (numRes w1) (numRes w2) ((([] : List Int), true)) ((⟨#[]⟩ : ByteArray)) (mkB rest) := by
 have hH := (spec_head 3 true (by decide) t (by omega)).1 _ _ h
 simp only [List.map_cons, List.map_nil] at hH
 have hN := spec_number (mkB w1)
 rw [mkB_list] at hN
 have hC := spec_number (mkB w2)
 rw [mkB_list] at hC
 generalize numRes w1 = D at hN ⊢
 obtain ⟨D, fD⟩ := D
 generalize numRes w2 = C at hC ⊢
 obtain ⟨C, fC⟩ := C
 have hO := spec_ok 6 D C ([] : List Int) ((⟨#[]⟩ : ByteArray)) (mkB rest) (by decide)
 refine ⟨(6, D, C, ([] : List Int), (⟨#[]⟩ : ByteArray), mkB rest, fD && (fC && (true && okc 6 D C ([] : List Int) ((⟨#[]⟩ : ByteArray)) (mkB rest)))), ?_, rfl⟩
 refine Ev.step (l9_6 · t) (Ev.bind hH ?_)
 refine Ev.congr (f := fun k => (spec_l00Number.f k (mkB w1)).bind fun c => spec_l12ReadCall.j1 k 3 [mkB w0, mkB w1, mkB w2] true c.2 6 false 6 c.1 0 [] (⟨#[]⟩ : ByteArray) (mkB rest)) (fun k => rfl) (Ev.bind hN ?_)
 refine Ev.step (f := fun k => spec_l12ReadCall.j2 k 3 [mkB w0, mkB w1, mkB w2] true fD 6 true 6 D 0 [] (⟨#[]⟩ : ByteArray) (mkB rest)) (fun k => rfl) ?_
 refine Ev.step (f := fun k => (spec_l00Number.f k (mkB w2)).bind fun q => if q.2 = true then (if fD = true then (spec_l10Call.f k 6 D q.1 [] ((⟨#[]⟩ : ByteArray)) (mkB rest)).bind fun z => some (6, D, q.1, [], (⟨#[]⟩ : ByteArray), mkB rest, z) else some (6, D, q.1, [], (⟨#[]⟩ : ByteArray), mkB rest, false)) else some (6, D, q.1, [], (⟨#[]⟩ : ByteArray), mkB rest, false)) (fun k => rfl) (Ev.bind hC ?_)
 cases fD <;> cases fC <;> first | exact Ev.now _ | exact Ev.bind hO (Ev.now _)
theorem miss_6 (t : ByteArray) (hs : t.size ≤ 65536) (h : headW 3 true t.data.toList = none) : ∃ r, Ev (fun k => Le9 k t 6) r ∧ toldC r = none := by
 obtain ⟨q, hq, hf⟩ := (spec_head 3 true (by decide) t (by omega)).2 h
 refine ⟨(6, 0, 0, [], (⟨#[]⟩ : ByteArray), (⟨#[]⟩ : ByteArray), false), Ev.step (l9_6 · t) (Ev.bind hq ?_), rfl⟩
 exact Ev.congr (fun k => by rw [if_neg (by rw [hf]; decide)]) (Ev.now _)
theorem parts_7 : spec_l12Parts.f 7 = some (2, true) := by first | rfl | kernel_rfl | simp [spec_l12Parts.f, wrap64, rd]
theorem l9_7 (k : Nat) (t : ByteArray) : Le9 (k + 1) t 7 = (spec_l12Head.f k t 2 true).bind fun b => if b.2.2 = true then (if 1 < (b.1.length : Int) then (spec_l00Number.f k (rdOf ByteArray.empty b.1 1)).bind fun c => spec_l12ReadCall.j1 k 2 b.1 b.2.2 c.2 7 false 7 c.1 0 [] (⟨#[]⟩ : ByteArray) b.2.1 else none) else some (7, 0, 0, [], (⟨#[]⟩ : ByteArray), (⟨#[]⟩ : ByteArray), false) := by
 unfold Le9
 simp only [spec_l12ReadCall.l0]
 rw [if_neg (by decide), if_neg (by decide), parts_7]
 simp only [Option.bind_some]
 rfl
theorem kind_7 (t : ByteArray) (hs : t.size ≤ 65536) (w0 w1 : Bs) (rest : Bs) (h : headW 2 true t.data.toList = some ([w0, w1], rest)) (hz : ∀ w ∈ [w0, w1], w.length ≤ 65536) : ∃ r, Ev (fun k => Le9 k t 7) r ∧ toldC r = finS 7 (numRes w1) (((0 : Int), true)) ((([] : List Int), true)) ((⟨#[]⟩ : ByteArray)) (mkB rest) := by
 have hH := (spec_head 2 true (by decide) t (by omega)).1 _ _ h
 simp only [List.map_cons, List.map_nil] at hH
 have hN := spec_number (mkB w1)
 rw [mkB_list] at hN
 generalize numRes w1 = D at hN ⊢
 obtain ⟨D, fD⟩ := D
 have hO := spec_ok 7 D 0 ([] : List Int) ((⟨#[]⟩ : ByteArray)) (mkB rest) (by decide)
 refine ⟨(7, D, 0, ([] : List Int), (⟨#[]⟩ : ByteArray), mkB rest, fD && (true && (true && okc 7 D 0 ([] : List Int) ((⟨#[]⟩ : ByteArray)) (mkB rest)))), ?_, rfl⟩
 refine Ev.step (l9_7 · t) (Ev.bind hH ?_)
 refine Ev.congr (f := fun k => (spec_l00Number.f k (mkB w1)).bind fun c => spec_l12ReadCall.j1 k 2 [mkB w0, mkB w1] true c.2 7 false 7 c.1 0 [] (⟨#[]⟩ : ByteArray) (mkB rest)) (fun k => rfl) (Ev.bind hN ?_)
 refine Ev.step (f := fun k => spec_l12ReadCall.j2 k 2 [mkB w0, mkB w1] true fD 7 false 7 D 0 [] (⟨#[]⟩ : ByteArray) (mkB rest)) (fun k => rfl) ?_
 refine Ev.step (f := fun k => if fD = true then ((spec_l10Call.f k 7 D 0 ([] : List Int) ((⟨#[]⟩ : ByteArray)) (mkB rest)).bind fun z => some (7, D, 0, ([] : List Int), (⟨#[]⟩ : ByteArray), mkB rest, z)) else some (7, D, 0, ([] : List Int), (⟨#[]⟩ : ByteArray), mkB rest, false)) (fun k => rfl) ?_
 cases fD <;> first | exact Ev.now _ | exact Ev.bind hO (Ev.now _)
theorem miss_7 (t : ByteArray) (hs : t.size ≤ 65536) (h : headW 2 true t.data.toList = none) : ∃ r, Ev (fun k => Le9 k t 7) r ∧ toldC r = none := by
 obtain ⟨q, hq, hf⟩ := (spec_head 2 true (by decide) t (by omega)).2 h
 refine ⟨(7, 0, 0, [], (⟨#[]⟩ : ByteArray), (⟨#[]⟩ : ByteArray), false), Ev.step (l9_7 · t) (Ev.bind hq ?_), rfl⟩
 exact Ev.congr (fun k => by rw [if_neg (by rw [hf]; decide)]) (Ev.now _)
theorem parts_8 : spec_l12Parts.f 8 = some (3, false) := by first | rfl | kernel_rfl | simp [spec_l12Parts.f, wrap64, rd]
theorem l9_8 (k : Nat) (t : ByteArray) : Le9 (k + 1) t 8 = (spec_l12Head.f k t 3 false).bind fun b => if b.2.2 = true then (if 1 < (b.1.length : Int) then (spec_l00Number.f k (rdOf ByteArray.empty b.1 1)).bind fun c => spec_l12ReadCall.j1 k 3 b.1 b.2.2 c.2 8 false 8 c.1 0 [] (⟨#[]⟩ : ByteArray) b.2.1 else none) else some (8, 0, 0, [], (⟨#[]⟩ : ByteArray), (⟨#[]⟩ : ByteArray), false) := by
 unfold Le9
 simp only [spec_l12ReadCall.l0]
 rw [if_neg (by decide), if_neg (by decide), parts_8]
 simp only [Option.bind_some]
 rfl
theorem kind_8 (t : ByteArray) (hs : t.size ≤ 65536) (w0 w1 w2 : Bs) (rest : Bs) (h : headW 3 false t.data.toList = some ([w0, w1, w2], rest)) (hz : ∀ w ∈ [w0, w1, w2], w.length ≤ 65536) : ∃ r, Ev (fun k => Le9 k t 8) r ∧ toldC r = finS 8 (numRes w1) (numRes w2) ((([] : List Int), true)) ((⟨#[]⟩ : ByteArray)) (mkB rest) := by
 have hH := (spec_head 3 false (by decide) t (by omega)).1 _ _ h
 simp only [List.map_cons, List.map_nil] at hH
 have hN := spec_number (mkB w1)
 rw [mkB_list] at hN
 have hC := spec_number (mkB w2)
 rw [mkB_list] at hC
 generalize numRes w1 = D at hN ⊢
 obtain ⟨D, fD⟩ := D
 generalize numRes w2 = C at hC ⊢
 obtain ⟨C, fC⟩ := C
 have hO := spec_ok 8 D C ([] : List Int) ((⟨#[]⟩ : ByteArray)) (mkB rest) (by decide)
 refine ⟨(8, D, C, ([] : List Int), (⟨#[]⟩ : ByteArray), mkB rest, fD && (fC && (true && okc 8 D C ([] : List Int) ((⟨#[]⟩ : ByteArray)) (mkB rest)))), ?_, rfl⟩
 refine Ev.step (l9_8 · t) (Ev.bind hH ?_)
 refine Ev.congr (f := fun k => (spec_l00Number.f k (mkB w1)).bind fun c => spec_l12ReadCall.j1 k 3 [mkB w0, mkB w1, mkB w2] true c.2 8 false 8 c.1 0 [] (⟨#[]⟩ : ByteArray) (mkB rest)) (fun k => rfl) (Ev.bind hN ?_)
 refine Ev.step (f := fun k => spec_l12ReadCall.j2 k 3 [mkB w0, mkB w1, mkB w2] true fD 8 true 8 D 0 [] (⟨#[]⟩ : ByteArray) (mkB rest)) (fun k => rfl) ?_
 refine Ev.step (f := fun k => (spec_l00Number.f k (mkB w2)).bind fun q => if q.2 = true then (if fD = true then (spec_l10Call.f k 8 D q.1 [] ((⟨#[]⟩ : ByteArray)) (mkB rest)).bind fun z => some (8, D, q.1, [], (⟨#[]⟩ : ByteArray), mkB rest, z) else some (8, D, q.1, [], (⟨#[]⟩ : ByteArray), mkB rest, false)) else some (8, D, q.1, [], (⟨#[]⟩ : ByteArray), mkB rest, false)) (fun k => rfl) (Ev.bind hC ?_)
 cases fD <;> cases fC <;> first | exact Ev.now _ | exact Ev.bind hO (Ev.now _)
theorem miss_8 (t : ByteArray) (hs : t.size ≤ 65536) (h : headW 3 false t.data.toList = none) : ∃ r, Ev (fun k => Le9 k t 8) r ∧ toldC r = none := by
 obtain ⟨q, hq, hf⟩ := (spec_head 3 false (by decide) t (by omega)).2 h
 refine ⟨(8, 0, 0, [], (⟨#[]⟩ : ByteArray), (⟨#[]⟩ : ByteArray), false), Ev.step (l9_8 · t) (Ev.bind hq ?_), rfl⟩
 exact Ev.congr (fun k => by rw [if_neg (by rw [hf]; decide)]) (Ev.now _)
theorem parts_9 : spec_l12Parts.f 9 = some (2, false) := by first | rfl | kernel_rfl | simp [spec_l12Parts.f, wrap64, rd]
theorem l9_9 (k : Nat) (t : ByteArray) : Le9 (k + 1) t 9 = (spec_l12Head.f k t 2 false).bind fun b => if b.2.2 = true then (if 1 < (b.1.length : Int) then (spec_l00Number.f k (rdOf ByteArray.empty b.1 1)).bind fun c => spec_l12ReadCall.j1 k 2 b.1 b.2.2 c.2 9 false 9 c.1 0 [] (⟨#[]⟩ : ByteArray) b.2.1 else none) else some (9, 0, 0, [], (⟨#[]⟩ : ByteArray), (⟨#[]⟩ : ByteArray), false) := by
 unfold Le9
 simp only [spec_l12ReadCall.l0]
 rw [if_neg (by decide), if_neg (by decide), parts_9]
 simp only [Option.bind_some]
 rfl
theorem kind_9 (t : ByteArray) (hs : t.size ≤ 65536) (w0 w1 : Bs) (rest : Bs) (h : headW 2 false t.data.toList = some ([w0, w1], rest)) (hz : ∀ w ∈ [w0, w1], w.length ≤ 65536) : ∃ r, Ev (fun k => Le9 k t 9) r ∧ toldC r = finS 9 (numRes w1) (((0 : Int), true)) ((([] : List Int), true)) ((⟨#[]⟩ : ByteArray)) (mkB rest) := by
 have hH := (spec_head 2 false (by decide) t (by omega)).1 _ _ h
 simp only [List.map_cons, List.map_nil] at hH
 have hN := spec_number (mkB w1)
 rw [mkB_list] at hN
 generalize numRes w1 = D at hN ⊢
 obtain ⟨D, fD⟩ := D
 have hO := spec_ok 9 D 0 ([] : List Int) ((⟨#[]⟩ : ByteArray)) (mkB rest) (by decide)
 refine ⟨(9, D, 0, ([] : List Int), (⟨#[]⟩ : ByteArray), mkB rest, fD && (true && (true && okc 9 D 0 ([] : List Int) ((⟨#[]⟩ : ByteArray)) (mkB rest)))), ?_, rfl⟩
 refine Ev.step (l9_9 · t) (Ev.bind hH ?_)
 refine Ev.congr (f := fun k => (spec_l00Number.f k (mkB w1)).bind fun c => spec_l12ReadCall.j1 k 2 [mkB w0, mkB w1] true c.2 9 false 9 c.1 0 [] (⟨#[]⟩ : ByteArray) (mkB rest)) (fun k => rfl) (Ev.bind hN ?_)
 refine Ev.step (f := fun k => spec_l12ReadCall.j2 k 2 [mkB w0, mkB w1] true fD 9 false 9 D 0 [] (⟨#[]⟩ : ByteArray) (mkB rest)) (fun k => rfl) ?_
 refine Ev.step (f := fun k => if fD = true then ((spec_l10Call.f k 9 D 0 ([] : List Int) ((⟨#[]⟩ : ByteArray)) (mkB rest)).bind fun z => some (9, D, 0, ([] : List Int), (⟨#[]⟩ : ByteArray), mkB rest, z)) else some (9, D, 0, ([] : List Int), (⟨#[]⟩ : ByteArray), mkB rest, false)) (fun k => rfl) ?_
 cases fD <;> first | exact Ev.now _ | exact Ev.bind hO (Ev.now _)
theorem miss_9 (t : ByteArray) (hs : t.size ≤ 65536) (h : headW 2 false t.data.toList = none) : ∃ r, Ev (fun k => Le9 k t 9) r ∧ toldC r = none := by
 obtain ⟨q, hq, hf⟩ := (spec_head 2 false (by decide) t (by omega)).2 h
 refine ⟨(9, 0, 0, [], (⟨#[]⟩ : ByteArray), (⟨#[]⟩ : ByteArray), false), Ev.step (l9_9 · t) (Ev.bind hq ?_), rfl⟩
 exact Ev.congr (fun k => by rw [if_neg (by rw [hf]; decide)]) (Ev.now _)
theorem join_cons2 (c : UInt8) (v : Bs) : ∀ ws : List Bs, ws ≠ [] → join (v :: ws) [c] = v ++ c :: join ws [c]
 | [], h => absurd rfl h
 | w :: r, _ => by rw [join_cons, join_cons]; simp [joinTail]
theorem join_pcs (c : UInt8) : ∀ l : Bs, join (pcs c l) [c] = l
 | [] => by simp [pcs, join_one]
 | b :: r => by
  have ih := join_pcs c r
  by_cases hb : b = c
  ·simp only [pcs, hb, if_true]
   rw [join_cons2 c [] _ (pcs_ne c r), ih]
   rfl
  ·simp only [pcs, hb, if_false]
   cases e : pcs c r with
   | nil => exact absurd e (pcs_ne c r)
   | cons p q =>
    rw [e] at ih
    simp only
    rw [join_cons] at ih ⊢
    rw [List.cons_append, ih]
theorem pcs_free (c : UInt8) : ∀ w : Bs, c ∉ w → pcs c w = [w]
 | [], _ => rfl
 | b :: w, h => by
  have hb : ¬ b = c := fun e => h (by simp [e])
  simp only [pcs, hb, if_false]
  rw [pcs_free c w (fun hm => h (by simp [hm]))]
theorem pcs_app (c : UInt8) (r : Bs) : ∀ w : Bs, c ∉ w → pcs c (w ++ c :: r) = w :: pcs c r
 | [], _ => by simp [pcs]
 | b :: w, h => by
  have hb : ¬ b = c := fun e => h (by simp [e])
  simp only [List.cons_append, pcs, hb, if_false]
  rw [pcs_app c r w (fun hm => h (by simp [hm]))]
theorem pcs_join (c : UInt8) : ∀ ws : List Bs, ws ≠ [] → (∀ w ∈ ws, c ∉ w) → pcs c (join ws [c]) = ws
 | [], h, _ => absurd rfl h
 | [w], _, hw => by rw [join_one]; exact pcs_free c w (hw w (by simp))
 | w :: v :: r, _, hw => by
  rw [join_cons2 c w _ (by simp), pcs_app c _ w (hw w (by simp)), pcs_join c (v :: r) (by simp) (fun u hu => hw u (by simp [hu]))]
theorem ws_data (s : ByteArray) : (ws s).map (·.data.toList) = pcs 46 s.data.toList := splitB_pcs s 46
theorem specR_ok : ∀ (wl : List ByteArray) (acc P : List Int), specR acc wl = (P, true) → ∃ Q, P = acc ++ Q ∧ wl.map (·.data.toList) = Q.map itoa
 | [], acc, P, h => by
  simp only [specR, Prod.mk.injEq] at h
  exact ⟨[], by simp [h.1], rfl⟩
 | w :: r, acc, P, h => by
  simp only [specR] at h
  cases hv : num18 w.data.toList with
  | none => rw [hv] at h; simp at h
  | some v =>
   rw [hv] at h
   simp only at h
   by_cases h0 : v < 0
   ·rw [if_pos h0] at h; simp at h
   ·rw [if_neg h0] at h
    obtain ⟨Q, h1, h2⟩ := specR_ok r _ P h
    exact ⟨v :: Q, by rw [h1]; simp, by rw [List.map_cons, List.map_cons, h2, (nums_ok hv).2.1]⟩
theorem specR_made : ∀ (wl : List ByteArray) (acc Q : List Int), wl.map (·.data.toList) = Q.map itoa → (∀ i ∈ Q, 0 ≤ i ∧ i ≤ 60) → specR acc wl = (acc ++ Q, pathB (acc ++ Q))
 | [], acc, Q, h, _ => by
  have : Q = [] := by cases Q with | nil => rfl | cons _ _ => simp at h
  subst this
  simp [specR]
 | w :: r, acc, Q, h, hq => by
  cases Q with
  | nil => simp at h
  | cons v Q =>
   simp only [List.map_cons, List.cons.injEq] at h
   have hv := hq v (by simp)
   simp only [specR]
   rw [h.1, (itoa_small hv.1 hv.2).2.2]
   simp only
   rw [if_neg (by omega), specR_made r _ Q h.2 (fun i hi => hq i (by simp [hi]))]
   simp
theorem path_back {w : Bs} {P : List Int} (h : specP (mkB w) = (P, true)) : pathT P = w ∧ (implP (mkB w)).1 = P := by
 unfold specP at h
 unfold implP
 rw [toList_data, mkB_list] at h ⊢
 by_cases hd : w = [45]
 ·rw [if_pos hd] at h ⊢
  simp only [Prod.mk.injEq] at h
  obtain ⟨rfl, -⟩ := h
  exact ⟨by simp [pathT, hd], rfl⟩
 ·rw [if_neg hd] at h ⊢
  obtain ⟨Q, h1, h2⟩ := specR_ok _ _ _ h
  rw [List.nil_append] at h1
  subst h1
  rw [ws_data, mkB_list] at h2
  have hne : P ≠ [] := by
   rintro rfl
   exact pcs_ne _ _ h2
  constructor
  ·unfold pathT
   rw [if_neg hne, ← h2, join_pcs]
  ·have := same_told (ws (mkB w)) []
   rw [h] at this
   unfold told at this
   simp only [if_true] at this
   split at this
   ·simpa using congrArg Prod.fst this
   ·simp only [Prod.mk.injEq] at this
    exact absurd this.2 (by decide)
theorem path_made {P : List Int} (hl : P.length ≤ 10) (hp : ∀ i ∈ P, 0 ≤ i ∧ i ≤ 60) : specP (mkB (pathT P)) = (P, true) := by
 have hB : pathB P = true := by
  unfold pathB
  simp only [Bool.and_eq_true, decide_eq_true_eq, Bool.not_eq_true', List.any_eq_false]
  refine ⟨hl, fun i hi => ?_⟩
  have := hp i hi
  simp [badStep]
  omega
 unfold specP
 rw [toList_data, mkB_list]
 by_cases hne : P = []
 ·subst hne
  simp [pathT]
 ·have hd : pathT P ≠ [45] := by
   unfold pathT
   rw [if_neg hne]
   cases P with
   | nil => exact absurd rfl hne
   | cons i r =>
    have h1 := hp i (by simp)
    have h2 := (itoa_wordy h1.1 h1.2).1
    have h3 := itoa_are h1.1
    rw [List.map_cons, join_cons]
    cases e : itoa i with
    | nil => exact absurd e h2
    | cons b t =>
     rw [e] at h3
     have := h3 b (by simp)
     intro h
     rw [List.cons_append, List.cons.injEq] at h
     rw [h.1] at this
     simp at this
  rw [if_neg hd, specR_made (ws (mkB (pathT P))) [] P (by
   rw [ws_data, mkB_list]
   unfold pathT
   rw [if_neg hne, pcs_join 46 _ (by simpa using hne) (fun w hw => by
    obtain ⟨i, hi, rfl⟩ := List.mem_map.1 hw
    intro hm
    have := itoa_are (hp i hi).1 46 hm
    simp at this)]) hp, List.nil_append, hB]
def idxL : List ByteArray → Int → Bs → Int
 | [], _, _ => -1
 | w :: r, i, a => if a = w.data.toList then i else idxL r (i + 1) a
theorem index_loop (l : List ByteArray) (a : ByteArray) (hn : l.length ≤ 1000) : ∀ (d i : Nat), l.length - i = d → i ≤ l.length →
  Ev (fun k => slices_Index_string_string.l0 k l a (l.length : Int) (i : Int)) (idxL (l.drop i) (i : Int) a.data.toList) := by
 intro d
 induction d with
 | zero =>
  intro i hd hi
  rw [List.drop_of_length_le (by omega)]
  refine Ev.step (f := fun _ => some (-1)) (fun k => ?_) (Ev.now _)
  simp only [slices_Index_string_string.l0]
  rw [if_neg (by omega)]
 | succ d ih =>
  intro i hd hi
  have hi' : i < l.length := by omega
  rw [List.drop_eq_getElem_cons hi']
  simp only [idxL]
  by_cases h : a.data.toList = l[i].data.toList
  ·rw [if_pos h]
   refine Ev.step (f := fun _ => some (i : Int)) (fun k => ?_) (Ev.now _)
   simp only [slices_Index_string_string.l0]
   rw [if_pos (by omega), if_pos (by omega), if_pos (by omega), rdOf_at l i hi', toList_data, toList_data, if_pos h]
  ·rw [if_neg h]
   refine Ev.step (fun k => ?_) (ih (i + 1) (by omega) (by omega))
   simp only [slices_Index_string_string.l0]
   rw [if_pos (by omega), if_pos (by omega), if_pos (by omega), rdOf_at l i hi', toList_data, toList_data, if_neg h, wrap_nat (by omega)]
def idxK (a : Bs) : Int := idxL W10 0 a
theorem impl_index (a : ByteArray) : Ev (fun k => slices_Index_string_string.f k W10 a) (idxK a.data.toList) := by
 have := index_loop W10 a (by decide) W10.length 0 rfl (by omega)
 unfold slices_Index_string_string.f idxK
 simpa using this
theorem idxK_word {K : Int} (h1 : 1 ≤ K) (h2 : K ≤ 9) : idxK (wordK K) = K := by
 obtain ⟨n, rfl⟩ := Int.eq_ofNat_of_zero_le (show 0 ≤ K by omega)
 have : ∀ n : Nat, n < 10 → 1 ≤ n → idxK (wordK (n : Int)) = (n : Int) := by decide
 exact this n (by omega) (by omega)
theorem word_free {K : Int} (h1 : 1 ≤ K) (h2 : K ≤ 9) : wordy (wordK K) := by
 obtain ⟨n, rfl⟩ := Int.eq_ofNat_of_zero_le (show 0 ≤ K by omega)
 have : ∀ n : Nat, n < 10 → 1 ≤ n → wordK (n : Int) ≠ [] ∧ (32 : UInt8) ∉ wordK (n : Int) := by decide
 exact this n (by omega) (by omega)
def hitW (t : ByteArray) (w : Bs) : Bool := decide ((cutW t.data.toList).2.2 = true) && decide ((cutW t.data.toList).1 = w)
theorem hit_is (t w : ByteArray) (hf : (32 : UInt8) ∉ w.data.toList) (hz : ¬ (t.size : Int) > (w.size : Int)) : hitW t w.data.toList = false := by
 unfold hitW
 cases h : (cutW t.data.toList).2.2 with
 | false => simp
 | true =>
  have hj := cutW_join _ h
  have h1 : t.data.toList.length = t.size := by simp
  have h2 : w.data.toList.length = w.size := by simp
  rw [hj] at h1
  simp only [List.length_append, List.length_cons] at h1
  simp only [decide_true, Bool.true_and, decide_eq_false_iff_not]
  intro e
  rw [e] at h1
  omega
theorem hit_pre (t w : ByteArray) (hf : (32 : UInt8) ∉ w.data.toList) (hz : (t.size : Int) > (w.size : Int)) : hitW t w.data.toList = (decide ((t.extract 0 ((w.size : Int)).toNat).toList = w.toList) && decide (bt t (w.size : Int) = 32)) := by
 have h1 : t.data.toList.length = t.size := by simp
 have h2 : w.data.toList.length = w.size := by simp
 obtain ⟨hlt, hb0⟩ : ∃ hlt : w.size < t.data.toList.length, bt t (w.size : Int) = ((t.data.toList[w.size]'hlt).toNat : Int) := ⟨by omega, bt_nat t w.size (by omega)⟩
 rw [toList_data, toList_data, extract_list, Int.toNat_natCast, Nat.sub_zero, List.drop_zero, hb0]
 clear hb0 hz
 have hb : ∀ b : UInt8, ((b.toNat : Int) = 32) ↔ b = 32 := fun b => by
  constructor
  ·intro h
   apply UInt8.toNat_inj.1
   have : (32 : UInt8).toNat = 32 := rfl
   omega
  ·rintro rfl; rfl
 unfold hitW
 generalize t.data.toList = l at *
 generalize w.size = n at *
 generalize w.data.toList = v at *
 subst h2
 have e3 : decide (((l[v.length]'hlt).toNat : Int) = 32) = decide (l[v.length]'hlt = 32) := by rw [decide_eq_decide]; exact hb _
 rw [e3]
 rw [Bool.eq_iff_iff]
 simp only [Bool.and_eq_true, decide_eq_true_eq]
 constructor
 ·rintro ⟨h3, h4⟩
  have hj := cutW_join l h3
  rw [h4] at hj
  constructor
  ·rw [hj]; simp
  ·have : l[v.length]? = some 32 := by rw [hj]; simp
   rw [List.getElem?_eq_getElem hlt] at this
   exact Option.some.inj this
 ·rintro ⟨h3, h4⟩
  have hd := List.drop_eq_getElem_cons hlt
  have ht : l = v ++ 32 :: l.drop (v.length + 1) := by
   conv => lhs; rw [← List.take_append_drop v.length l]
   rw [h3, hd, h4]
  rw [ht, cutW_make v _ hf]
  exact ⟨rfl, rfl⟩
def foldK (t : ByteArray) : Nat → Int
 | 0 => 0
 | i + 1 => if hitW t (wordK ((i : Int) + 1)) = true then (i : Int) + 1 else foldK t i
theorem w9_word (i : Nat) (h : i < 9) : (rdOf ByteArray.empty W9 (i : Int)).data.toList = wordK ((i : Int) + 1) ∧ (32 : UInt8) ∉ (rdOf ByteArray.empty W9 (i : Int)).data.toList := by
 have : ∀ i : Nat, i < 9 → (rdOf ByteArray.empty W9 (i : Int)).data.toList = wordK ((i : Int) + 1) ∧ (32 : UInt8) ∉ (rdOf ByteArray.empty W9 (i : Int)).data.toList := by decide
 exact this i h
theorem l0_round (t : ByteArray) (i : Nat) (h : i < 9) (K : Int) (k : Nat) :
  spec_l12ReadCall.l0 (k + 1) t (i : Int) K 0 0 [] (⟨#[]⟩ : ByteArray) (⟨#[]⟩ : ByteArray) = spec_l12ReadCall.l0 k t ((i + 1 : Nat) : Int) (if hitW t (wordK ((i : Int) + 1)) = true then (i : Int) + 1 else K) 0 0 [] (⟨#[]⟩ : ByteArray) (⟨#[]⟩ : ByteArray) := by
 obtain ⟨hw, hf⟩ := w9_word i h
 have hl : (W9.length : Int) = 9 := rfl
 simp only [spec_l12ReadCall.l0]
 rw [if_pos (by omega), W9_is]
 simp only [Option.bind_some]
 rw [if_pos (by omega), if_pos (by rw [hl]; omega)]
 rw [← hw]
 generalize rdOf ByteArray.empty W9 (i : Int) = w at hf
 by_cases hz : (t.size : Int) > (w.size : Int)
 ·rw [if_pos hz, if_pos (by omega), if_pos (by omega), if_pos (by rw [hl]; omega), hit_pre t w hf hz]
  by_cases h1 : (t.extract 0 ((w.size : Int)).toNat).toList = w.toList
  ·rw [if_pos h1, if_pos (by omega)]
   by_cases h2 : bt t (w.size : Int) = 32
   ·rw [if_pos h2, wrap_nat (by omega), decide_eq_true h1, decide_eq_true h2]
    rfl
   ·rw [if_neg h2, wrap_nat (by omega), decide_eq_true h1, decide_eq_false h2]
    rfl
  ·rw [if_neg h1, wrap_nat (by omega), decide_eq_false h1]
   rfl
 ·rw [if_neg hz, hit_is t w hf hz, wrap_nat (by omega)]
  rfl
theorem l0_all (t : ByteArray) (r : C7) (h : Ev (fun k => Le9 k t (foldK t 9)) r) : ∀ d i : Nat, 9 - i = d → i ≤ 9 → Ev (fun k => spec_l12ReadCall.l0 k t (i : Int) (foldK t i) 0 0 [] (⟨#[]⟩ : ByteArray) (⟨#[]⟩ : ByteArray)) r := by
 intro d
 induction d with
 | zero =>
  intro i hd hi
  obtain rfl : i = 9 := by omega
  exact h
 | succ d ih =>
  intro i hd hi
  exact Ev.step (l0_round t i (by omega) (foldK t i)) (ih (i + 1) (by omega) (by omega))
theorem fold_some (t : ByteArray) : ∀ n : Nat, foldK t n = 0 ∧ (∀ j, j < n → hitW t (wordK ((j : Int) + 1)) = false) ∨ ∃ j : Nat, j < n ∧ foldK t n = (j : Int) + 1 ∧ hitW t (wordK ((j : Int) + 1)) = true
 | 0 => .inl ⟨rfl, fun j h => by omega⟩
 | n + 1 => by
  simp only [foldK]
  cases hh : hitW t (wordK ((n : Int) + 1)) with
  | true => exact .inr ⟨n, by omega, by simp, hh⟩
  | false =>
   rw [if_neg (by decide)]
   rcases fold_some t n with ⟨h1, h2⟩ | ⟨j, h1, h2, h3⟩
   ·refine .inl ⟨h1, fun j hj => ?_⟩
    by_cases e : j = n
    ·rw [e]; exact hh
    ·exact h2 j (by omega)
   ·exact .inr ⟨j, by omega, h2, h3⟩
theorem fold_zero {t : ByteArray} (h : foldK t 9 = 0) {K : Int} (h1 : 1 ≤ K) (h2 : K ≤ 9) (h3 : (cutW t.data.toList).2.2 = true) : (cutW t.data.toList).1 ≠ wordK K := by
 intro e
 rcases fold_some t 9 with ⟨_, h4⟩ | ⟨j, _, h4, _⟩
 ·have := h4 (K - 1).toNat (by omega)
  rw [show (((K - 1).toNat : Nat) : Int) + 1 = K from by omega] at this
  simp [hitW, h3, e] at this
 ·omega
theorem fold_hit {t : ByteArray} {K : Int} (h : foldK t 9 = K) (h0 : K ≠ 0) : 1 ≤ K ∧ K ≤ 9 ∧ (cutW t.data.toList).2.2 = true ∧ (cutW t.data.toList).1 = wordK K := by
 rcases fold_some t 9 with ⟨h4, _⟩ | ⟨j, h1, h4, h5⟩
 ·omega
 ·have e : K = (j : Int) + 1 := by omega
  rw [e]
  simp only [hitW, Bool.and_eq_true, decide_eq_true_eq] at h5
  exact ⟨by omega, by omega, h5.1, h5.2⟩
def tailP (K : Int) (t r0 : Bs) (p n c x : Bool) : Option C6 :=
 let c1 := cutW r0
 let y : List Int × Bs := if p = true then ((implP (mkB (cutW c1.2.1).1)).1, (cutW c1.2.1).2.1) else ([], c1.2.1)
 let z : ByteArray × Bs := if n = true then (mkB (cutW y.2).1, (cutW y.2).2.1) else (⟨#[]⟩, y.2)
 let u : Int × Bs := if c = true then (atoiV (cutW z.2).1, (cutW z.2).2.1) else (0, z.2)
 let T : ByteArray := if x = true then mkB u.2 else ⟨#[]⟩
 if (okc K (atoiV c1.1) u.1 y.1 z.1 T && decide (textC K (atoiV c1.1) u.1 y.1 z.1 T = t)) = true then some (K, atoiV c1.1, u.1, y.1, z.1, T) else none
def backI (o : Option C6) : C7 := match o with
 | some c => (c.1, c.2.1, c.2.2.1, c.2.2.2.1, c.2.2.2.2.1, c.2.2.2.2.2, true)
 | none => (0, 0, 0, [], ⟨#[]⟩, ⟨#[]⟩, false)
theorem cut_f (s : ByteArray) (hs : s.size ≤ 1000000) : strings_Cut.f s sp = some (mkB (cutW s.data.toList).1, mkB (cutW s.data.toList).2.1, (cutW s.data.toList).2.2) := by
 unfold strings_Cut.f
 rw [if_pos (by omega)]
 have : sp.data.toList = [32] := rfl
 rw [this, cut_is]
 rfl
theorem num_f (l : Bs) (hs : l.length ≤ 1000000) : ∃ b, impl_number.f (mkB l) = some (atoiV l, b) := by
 unfold impl_number.f
 rw [if_pos (by rw [mkB_size]; omega), mkB_list]
 exact ⟨_, rfl⟩
theorem size_len (s : ByteArray) : s.data.toList.length = s.size := by simp
theorem tail_is (K : Int) (t : ByteArray) (r0 : Bs) (p n c x : Bool) (hs : r0.length ≤ 65536) (ht : t.size ≤ 65536) : Ev (fun k => tailI k t K (mkB r0) p n c x) (backI (tailP K t.data.toList r0 p n c x)) := by
 unfold tailI tailP
 simp only
 have l1 := cutW_len r0
 have e1 := cut_f (mkB r0) (by rw [mkB_size]; omega)
 rw [mkB_list] at e1
 generalize hc1 : cutW r0 = c1 at l1 e1
 obtain ⟨w1, r1, f1⟩ := c1
 simp only at l1 e1
 obtain ⟨b1, hb1⟩ := num_f w1 (by omega)
 refine Ev.congr (f := fun k => (if p = true then (strings_Cut.f (mkB r1) sp).bind fun c2 => (impl_readPath.f k c2.1).bind fun q => some (q.1, c2.2.1) else some (([] : List Int), mkB r1)).bind fun y =>
  (if n = true then (strings_Cut.f y.2 sp).bind fun c3 => some (c3.1, c3.2.1) else some ((⟨#[]⟩ : ByteArray), y.2)).bind fun z =>
  (if c = true then (strings_Cut.f z.2 sp).bind fun c4 => (impl_number.f c4.1).bind fun g => some (g.1, c4.2.1) else some (0, z.2)).bind fun u =>
  (impl_CallOK.f k K (atoiV w1) u.1 y.1 z.1 (if x = true then u.2 else ⟨#[]⟩)).bind fun ok =>
  if ok = true then (impl_callText.f k K (atoiV w1) u.1 y.1 z.1 (if x = true then u.2 else ⟨#[]⟩)).bind fun ct => if ct.toList = t.toList then some (K, atoiV w1, u.1, y.1, z.1, (if x = true then u.2 else (⟨#[]⟩ : ByteArray)), true) else some (0, 0, 0, [], (⟨#[]⟩ : ByteArray), (⟨#[]⟩ : ByteArray), false)
  else some (0, 0, 0, [], (⟨#[]⟩ : ByteArray), (⟨#[]⟩ : ByteArray), false)) (fun k => by rw [e1]; simp only [Option.bind_some]; rw [hb1]; simp only [Option.bind_some]) ?_
 have hy : ∃ y : List Int × Bs, (if p = true then ((implP (mkB (cutW r1).1)).1, (cutW r1).2.1) else (([] : List Int), r1)) = y ∧ y.2.length ≤ 65536 ∧ Ev (fun k => (if p = true then (strings_Cut.f (mkB r1) sp).bind fun c2 => (impl_readPath.f k c2.1).bind fun q => some (q.1, c2.2.1) else some (([] : List Int), mkB r1))) (y.1, mkB y.2) := by
  have l2 := cutW_len r1
  have e2 := cut_f (mkB r1) (by rw [mkB_size]; omega)
  rw [mkB_list] at e2
  cases p with
  | false => exact ⟨_, rfl, by simp only [Bool.false_eq_true, if_false]; omega, by simp only [Bool.false_eq_true, if_false]; exact Ev.now _⟩
  | true =>
   refine ⟨_, rfl, by simp only [if_true]; omega, ?_⟩
   simp only [if_true]
   exact Ev.bind ⟨0, fun _ _ => e2⟩ (Ev.bind (impl_readPath_is (mkB (cutW r1).1) (by rw [mkB_size]; omega)) (Ev.now _))
 obtain ⟨y, hy1, hyl, hy2⟩ := hy
 rw [hy1]
 refine Ev.bind hy2 ?_
 clear hy2 hy1
 simp only
 have hz : ∃ z : ByteArray × Bs, (if n = true then (mkB (cutW y.2).1, (cutW y.2).2.1) else ((⟨#[]⟩ : ByteArray), y.2)) = z ∧ z.2.length ≤ 65536 ∧ z.1.size ≤ 65536 ∧ (if n = true then (strings_Cut.f (mkB y.2) sp).bind fun c3 => some (c3.1, c3.2.1) else some ((⟨#[]⟩ : ByteArray), mkB y.2)) = some (z.1, mkB z.2) := by
  have l2 := cutW_len y.2
  have e2 := cut_f (mkB y.2) (by rw [mkB_size]; omega)
  rw [mkB_list] at e2
  cases n with
  | false => exact ⟨_, rfl, by simp only [Bool.false_eq_true, if_false]; omega, (by first | (simp; done) | decide | (simp only [Bool.false_eq_true, if_false]; decide)), by simp only [Bool.false_eq_true, if_false]⟩
  | true => exact ⟨_, rfl, by simp only [if_true]; omega, by simp only [if_true]; rw [mkB_size]; omega, by simp only [if_true]; rw [e2]; rfl⟩
 obtain ⟨z, hz1, hzl, hzs, hz2⟩ := hz
 rw [hz1]
 refine Ev.bind (a := (z.1, mkB z.2)) ⟨0, fun _ _ => hz2⟩ ?_
 clear hz1 hz2
 have hu : ∃ u : Int × Bs, (if c = true then (atoiV (cutW z.2).1, (cutW z.2).2.1) else ((0 : Int), z.2)) = u ∧ u.2.length ≤ 65536 ∧ (if c = true then (strings_Cut.f (mkB z.2) sp).bind fun c4 => (impl_number.f c4.1).bind fun g => some (g.1, c4.2.1) else some ((0 : Int), mkB z.2)) = some (u.1, mkB u.2) := by
  have l2 := cutW_len z.2
  have e2 := cut_f (mkB z.2) (by rw [mkB_size]; omega)
  rw [mkB_list] at e2
  obtain ⟨b, hb⟩ := num_f (cutW z.2).1 (by omega)
  cases c with
  | false => exact ⟨_, rfl, by simp only [Bool.false_eq_true, if_false]; omega, by simp only [Bool.false_eq_true, if_false]⟩
  | true => exact ⟨_, rfl, by simp only [if_true]; omega, by simp only [if_true]; rw [e2]; simp only [Option.bind_some]; rw [hb]; rfl⟩
 obtain ⟨u, hu1, hul, hu2⟩ := hu
 rw [hu1]
 refine Ev.bind (a := (u.1, mkB u.2)) ⟨0, fun _ _ => hu2⟩ ?_
 clear hu1 hu2
 have eT : (if x = true then mkB u.2 else (⟨#[]⟩ : ByteArray)) = (if x = true then (u.1, mkB u.2).2 else (⟨#[]⟩ : ByteArray)) := rfl
 generalize (if x = true then mkB u.2 else (⟨#[]⟩ : ByteArray)) = T at eT ⊢
 simp only [← eT]
 have hO := impl_ok K (atoiV w1) u.1 y.1 z.1 T (by omega)
 refine Ev.bind hO ?_
 cases ho : okc K (atoiV w1) u.1 y.1 z.1 T with
 | false => simp only [Bool.false_and, Bool.false_eq_true, if_false]; exact Ev.now _
 | true =>
  simp only [if_true, Bool.true_and]
  refine Ev.bind (impl_text ho) ?_
  rw [toList_data, mkB_list, toList_data]
  by_cases he : textC K (atoiV w1) u.1 y.1 z.1 T = t.data.toList
  ·simp only [he, decide_true, if_true]; exact Ev.now _
  ·simp only [he, decide_false, if_false, Bool.false_eq_true]; exact Ev.now _
def readP (t : Bs) : Option C6 := if idxK (cutW t).1 < 1 then none else tailP (idxK (cutW t).1) t (cutW t).2.1 (pathK (idxK (cutW t).1)) (nameK (idxK (cutW t).1)) (cfgK (idxK (cutW t).1)) (textK (idxK (cutW t).1))
theorem impl_read (t : ByteArray) (hs : t.size ≤ 65536) : Ev (fun k => impl_readCall.f k t) (backI (readP t.data.toList)) := by
 have hl := cutW_len t.data.toList
 rw [size_len] at hl
 unfold impl_readCall.f readP
 refine Ev.bind ⟨0, fun _ _ => cut_f t (by omega)⟩ ?_
 have hi := impl_index (mkB (cutW t.data.toList).1)
 rw [mkB_list] at hi
 refine Ev.bind hi ?_
 generalize idxK (cutW t.data.toList).1 = K
 by_cases hK : K < 1
 ·simp only [hK, if_true]; exact Ev.now _
 ·simp only [hK, if_false]
  refine Ev.bind ⟨0, fun _ _ => hasPath_is K⟩ (Ev.bind ⟨0, fun _ _ => hasName_is K⟩ (Ev.bind ⟨0, fun _ _ => hasConfig_is K⟩ (Ev.bind ⟨0, fun _ _ => hasText_is K⟩ ?_)))
  exact tail_is K t _ _ _ _ _ (by omega) hs
theorem tail_ok {K : Int} {t r0 : Bs} {p n c x : Bool} {v : C6} (h : tailP K t r0 p n c x = some v) : v.1 = K ∧ okc v.1 v.2.1 v.2.2.1 v.2.2.2.1 v.2.2.2.2.1 v.2.2.2.2.2 = true ∧ textC v.1 v.2.1 v.2.2.1 v.2.2.2.1 v.2.2.2.2.1 v.2.2.2.2.2 = t := by
 unfold tailP at h
 simp only at h
 obtain ⟨hh, hv⟩ := Option.ite_none_right_eq_some.1 h
 obtain rfl := Option.some.inj hv
 simp only [Bool.and_eq_true, decide_eq_true_eq] at hh
 exact ⟨rfl, hh.1, hh.2⟩
theorem read_ok {t : Bs} {v : C6} (h : readP t = some v) : okc v.1 v.2.1 v.2.2.1 v.2.2.2.1 v.2.2.2.2.1 v.2.2.2.2.2 = true ∧ textC v.1 v.2.1 v.2.2.1 v.2.2.2.1 v.2.2.2.2.1 v.2.2.2.2.2 = t := by
 unfold readP at h
 split at h
 ·cases h
 ·have := tail_ok h
  exact this.2
theorem numRes_small {d : Int} (h0 : 0 ≤ d) (h1 : d ≤ 60) : numRes (itoa d) = (d, true) := by
 unfold numRes
 rw [(itoa_small h0 h1).2.2]
theorem numRes_ok {w : Bs} {d : Int} (h : numRes w = (d, true)) : itoa d = w ∧ atoiV w = d := by
 unfold numRes at h
 cases hn : num18 w with
 | none => rw [hn] at h; simp at h
 | some v =>
  rw [hn] at h
  simp only [Prod.mk.injEq, and_true] at h
  subst h
  obtain ⟨h1, h2, -⟩ := nums_ok hn
  exact ⟨h2, by unfold atoiV; rw [h1]⟩
theorem emp_of {N : ByteArray} (h : N.data.toList = []) : N = ⟨#[]⟩ := data_inj h
theorem finS_some {K : Int} {D C : Int × Bool} {P : List Int × Bool} {N R : ByteArray} {v : C6} (h : finS K D C P N R = some v) : D.2 = true ∧ C.2 = true ∧ P.2 = true ∧ okc K D.1 C.1 P.1 N R = true ∧ v = (K, D.1, C.1, P.1, N, R) := by
 unfold finS at h
 split at h
 ·rename_i hh
  simp only [Bool.and_eq_true] at hh
  exact ⟨hh.1, hh.2.1, hh.2.2.1, hh.2.2.2, (Option.some.inj h).symm⟩
 ·cases h
theorem finS_mk {K D C : Int} {P : List Int} {N R : ByteArray} (h : okc K D C P N R = true) : finS K (D, true) (C, true) (P, true) N R = some (K, D, C, P, N, R) := by
 unfold finS
 simp [h]
theorem there_1 {t : Bs} {w0 w1 w2 rest : Bs} {v : C6} (h : headW 3 false t = some ([w0, w1, w2], rest)) (h0 : w0 = wordK 1) (hv : finS 1 (numRes w1) (((0 : Int), true)) ((([] : List Int), true)) (mkB w2) (mkB rest) = some v) : readP t = some v := by
 obtain ⟨hj, hx, -, hw⟩ := head_back false 2 t _ _ h
 have qw0 := (hw w0 (by simp)).2
 have qw1 := (hw w1 (by simp)).2
 have qw2 := (hw w2 (by simp)).2
 obtain ⟨hD, hC, hP, hO, rfl⟩ := finS_some hv
 clear hv
 generalize hd : numRes w1 = D at hD hO ⊢
 obtain ⟨D, fD⟩ := D
 simp only at hD hO ⊢
 subst hD
 obtain ⟨i1, a1⟩ := numRes_ok hd
 simp only [joinSp, Bool.false_eq_true, if_false, List.append_nil] at hj
 obtain rfl := hx rfl
 have ht : t = w0 ++ 32 :: (w1 ++ 32 :: (w2)) := by rw [hj]; try simp
 have c0 : cutW (w0 ++ 32 :: (w1 ++ 32 :: (w2))) = (w0, w1 ++ 32 :: (w2), true) := cutW_make _ _ qw0
 have c1 : cutW (w1 ++ 32 :: (w2)) = (w1, w2, true) := cutW_make _ _ qw1
 have c2 : cutW (w2) = (w2, [], false) := cutW_whole _ qw2
 have hk : idxK w0 = 1 := by rw [h0]; exact idxK_word (by decide) (by decide)
 have eT : textC 1 D 0 ([] : List Int) (mkB w2) ((⟨#[]⟩ : ByteArray)) = t := by
  rw [ht, h0]
  unfold textC
  have : pathK 1 = false ∧ nameK 1 = true ∧ cfgK 1 = false ∧ textK 1 = false := by decide
  rw [this.1, this.2.1, this.2.2.1, this.2.2.2, i1]
  simp [mkB]
 have e0 : mkB [] = (⟨#[]⟩ : ByteArray) := rfl
 rw [e0] at hO ⊢
 unfold readP
 rw [ht, c0]
 simp only [hk]
 rw [if_neg (by decide)]
 have hb : pathK 1 = false ∧ nameK 1 = true ∧ cfgK 1 = false ∧ textK 1 = false := by decide
 rw [hb.1, hb.2.1, hb.2.2.1, hb.2.2.2]
 rw [ht] at eT
 unfold tailP
 simp only [c1, c2, a1, Bool.false_eq_true, if_true, if_false]
 rw [if_pos (by rw [hO, eT]; simp)]
theorem back_1 {t : Bs} {D C : Int} {P : List Int} {N T : ByteArray} (hO : okc 1 D C P N T = true) (hT : textC 1 D C P N T = t) : headW 3 false t = some ([wordK 1, itoa D, N.data.toList], T.data.toList) ∧ finS 1 (numRes (itoa D)) (((0 : Int), true)) ((([] : List Int), true)) (mkB N.data.toList) (mkB T.data.toList) = some (1, D, C, P, N, T) := by
 obtain ⟨hK, hD, hPl, hTs, hC, hp, hN1, hN2, hP0, hC0, hT0⟩ := okc_parts hO
 have hb : pathK 1 = false ∧ nameK 1 = true ∧ cfgK 1 = false ∧ textK 1 = false := by decide
 obtain rfl := hP0 hb.1
 obtain rfl := hC0 hb.2.2.1
 obtain rfl := emp_of (hT0 hb.2.2.2)
 have hm := head_make false [] (fun _ => rfl) [wordK 1, itoa D, N.data.toList] (by simp) (by
  intro w hw
  simp only [List.mem_cons, List.not_mem_nil, or_false] at hw
  rcases hw with rfl | rfl | rfl
  ·exact word_free (by decide) (by decide)
  ·exact itoa_wordy hD.1 (by omega)
  ·exact ⟨(tag_some (hN1 hb.2.1)).1, (tag_some (hN1 hb.2.1)).2.1⟩
  )
 have ht : t = joinSp [wordK 1, itoa D, N.data.toList] ++ (if false = true then 32 :: [] else []) := by
  rw [← hT]
  unfold textC
  rw [hb.1, hb.2.1, hb.2.2.1, hb.2.2.2]
  simp [joinSp]
 refine ⟨by rw [ht]; exact hm, ?_⟩
 rw [numRes_small hD.1 (by omega), mkB_of, mkB_of]
 exact finS_mk hO
theorem there_2 {t : Bs} {w0 w1 w2 w3 rest : Bs} {v : C6} (h : headW 4 false t = some ([w0, w1, w2, w3], rest)) (h0 : w0 = wordK 2) (hv : finS 2 (numRes w1) (((0 : Int), true)) (specP (mkB w2)) (mkB w3) (mkB rest) = some v) : readP t = some v := by
 obtain ⟨hj, hx, -, hw⟩ := head_back false 3 t _ _ h
 have qw0 := (hw w0 (by simp)).2
 have qw1 := (hw w1 (by simp)).2
 have qw2 := (hw w2 (by simp)).2
 have qw3 := (hw w3 (by simp)).2
 obtain ⟨hD, hC, hP, hO, rfl⟩ := finS_some hv
 clear hv
 generalize hd : numRes w1 = D at hD hO ⊢
 obtain ⟨D, fD⟩ := D
 simp only at hD hO ⊢
 subst hD
 obtain ⟨i1, a1⟩ := numRes_ok hd
 generalize hp : specP (mkB w2) = P at hP hO ⊢
 obtain ⟨P, fP⟩ := P
 simp only at hP hO ⊢
 subst hP
 obtain ⟨i2, a2⟩ := path_back hp
 simp only [joinSp, Bool.false_eq_true, if_false, List.append_nil] at hj
 obtain rfl := hx rfl
 have ht : t = w0 ++ 32 :: (w1 ++ 32 :: (w2 ++ 32 :: (w3))) := by rw [hj]; try simp
 have c0 : cutW (w0 ++ 32 :: (w1 ++ 32 :: (w2 ++ 32 :: (w3)))) = (w0, w1 ++ 32 :: (w2 ++ 32 :: (w3)), true) := cutW_make _ _ qw0
 have c1 : cutW (w1 ++ 32 :: (w2 ++ 32 :: (w3))) = (w1, w2 ++ 32 :: (w3), true) := cutW_make _ _ qw1
 have c2 : cutW (w2 ++ 32 :: (w3)) = (w2, w3, true) := cutW_make _ _ qw2
 have c3 : cutW (w3) = (w3, [], false) := cutW_whole _ qw3
 have hk : idxK w0 = 2 := by rw [h0]; exact idxK_word (by decide) (by decide)
 have eT : textC 2 D 0 P (mkB w3) ((⟨#[]⟩ : ByteArray)) = t := by
  rw [ht, h0]
  unfold textC
  have : pathK 2 = true ∧ nameK 2 = true ∧ cfgK 2 = false ∧ textK 2 = false := by decide
  rw [this.1, this.2.1, this.2.2.1, this.2.2.2, i1]
  simp [mkB, i2]
 have e0 : mkB [] = (⟨#[]⟩ : ByteArray) := rfl
 rw [e0] at hO ⊢
 unfold readP
 rw [ht, c0]
 simp only [hk]
 rw [if_neg (by decide)]
 have hb : pathK 2 = true ∧ nameK 2 = true ∧ cfgK 2 = false ∧ textK 2 = false := by decide
 rw [hb.1, hb.2.1, hb.2.2.1, hb.2.2.2]
 rw [ht] at eT
 unfold tailP
 simp only [c1, c2, c3, a1, a2, Bool.false_eq_true, if_true, if_false]
 rw [if_pos (by rw [hO, eT]; simp)]
theorem back_2 {t : Bs} {D C : Int} {P : List Int} {N T : ByteArray} (hO : okc 2 D C P N T = true) (hT : textC 2 D C P N T = t) : headW 4 false t = some ([wordK 2, itoa D, pathT P, N.data.toList], T.data.toList) ∧ finS 2 (numRes (itoa D)) (((0 : Int), true)) (specP (mkB (pathT P))) (mkB N.data.toList) (mkB T.data.toList) = some (2, D, C, P, N, T) := by
 obtain ⟨hK, hD, hPl, hTs, hC, hp, hN1, hN2, hP0, hC0, hT0⟩ := okc_parts hO
 have hb : pathK 2 = true ∧ nameK 2 = true ∧ cfgK 2 = false ∧ textK 2 = false := by decide
 obtain rfl := hC0 hb.2.2.1
 obtain rfl := emp_of (hT0 hb.2.2.2)
 have hm := head_make false [] (fun _ => rfl) [wordK 2, itoa D, pathT P, N.data.toList] (by simp) (by
  intro w hw
  simp only [List.mem_cons, List.not_mem_nil, or_false] at hw
  rcases hw with rfl | rfl | rfl | rfl
  ·exact word_free (by decide) (by decide)
  ·exact itoa_wordy hD.1 (by omega)
  ·exact path_wordy hp
  ·exact ⟨(tag_some (hN1 hb.2.1)).1, (tag_some (hN1 hb.2.1)).2.1⟩
  )
 have ht : t = joinSp [wordK 2, itoa D, pathT P, N.data.toList] ++ (if false = true then 32 :: [] else []) := by
  rw [← hT]
  unfold textC
  rw [hb.1, hb.2.1, hb.2.2.1, hb.2.2.2]
  simp [joinSp]
 refine ⟨by rw [ht]; exact hm, ?_⟩
 rw [numRes_small hD.1 (by omega), path_made hPl hp, mkB_of, mkB_of]
 exact finS_mk hO
theorem there_3 {t : Bs} {w0 w1 w2 rest : Bs} {v : C6} (h : headW 3 true t = some ([w0, w1, w2], rest)) (h0 : w0 = wordK 3) (hv : finS 3 (numRes w1) (((0 : Int), true)) (specP (mkB w2)) ((⟨#[]⟩ : ByteArray)) (mkB rest) = some v) : readP t = some v := by
 obtain ⟨hj, hx, -, hw⟩ := head_back true 2 t _ _ h
 have qw0 := (hw w0 (by simp)).2
 have qw1 := (hw w1 (by simp)).2
 have qw2 := (hw w2 (by simp)).2
 obtain ⟨hD, hC, hP, hO, rfl⟩ := finS_some hv
 clear hv
 generalize hd : numRes w1 = D at hD hO ⊢
 obtain ⟨D, fD⟩ := D
 simp only at hD hO ⊢
 subst hD
 obtain ⟨i1, a1⟩ := numRes_ok hd
 generalize hp : specP (mkB w2) = P at hP hO ⊢
 obtain ⟨P, fP⟩ := P
 simp only at hP hO ⊢
 subst hP
 obtain ⟨i2, a2⟩ := path_back hp
 simp only [joinSp, if_true] at hj
 have ht : t = w0 ++ 32 :: (w1 ++ 32 :: (w2 ++ 32 :: rest)) := by rw [hj]; try simp
 have c0 : cutW (w0 ++ 32 :: (w1 ++ 32 :: (w2 ++ 32 :: rest))) = (w0, w1 ++ 32 :: (w2 ++ 32 :: rest), true) := cutW_make _ _ qw0
 have c1 : cutW (w1 ++ 32 :: (w2 ++ 32 :: rest)) = (w1, w2 ++ 32 :: rest, true) := cutW_make _ _ qw1
 have c2 : cutW (w2 ++ 32 :: rest) = (w2, rest, true) := cutW_make _ _ qw2
 have hk : idxK w0 = 3 := by rw [h0]; exact idxK_word (by decide) (by decide)
 have eT : textC 3 D 0 P ((⟨#[]⟩ : ByteArray)) (mkB rest) = t := by
  rw [ht, h0]
  unfold textC
  have : pathK 3 = true ∧ nameK 3 = false ∧ cfgK 3 = false ∧ textK 3 = true := by decide
  rw [this.1, this.2.1, this.2.2.1, this.2.2.2, i1]
  simp [mkB, i2]
 unfold readP
 rw [ht, c0]
 simp only [hk]
 rw [if_neg (by decide)]
 have hb : pathK 3 = true ∧ nameK 3 = false ∧ cfgK 3 = false ∧ textK 3 = true := by decide
 rw [hb.1, hb.2.1, hb.2.2.1, hb.2.2.2]
 rw [ht] at eT
 unfold tailP
 simp only [c1, c2, a1, a2, Bool.false_eq_true, if_true, if_false]
 rw [if_pos (by rw [hO, eT]; simp)]
theorem back_3 {t : Bs} {D C : Int} {P : List Int} {N T : ByteArray} (hO : okc 3 D C P N T = true) (hT : textC 3 D C P N T = t) : headW 3 true t = some ([wordK 3, itoa D, pathT P], T.data.toList) ∧ finS 3 (numRes (itoa D)) (((0 : Int), true)) (specP (mkB (pathT P))) ((⟨#[]⟩ : ByteArray)) (mkB T.data.toList) = some (3, D, C, P, N, T) := by
 obtain ⟨hK, hD, hPl, hTs, hC, hp, hN1, hN2, hP0, hC0, hT0⟩ := okc_parts hO
 have hb : pathK 3 = true ∧ nameK 3 = false ∧ cfgK 3 = false ∧ textK 3 = true := by decide
 obtain rfl := hC0 hb.2.2.1
 obtain rfl := emp_of (hN2 hb.2.1)
 have hm := head_make true T.data.toList (fun h => by cases h) [wordK 3, itoa D, pathT P] (by simp) (by
  intro w hw
  simp only [List.mem_cons, List.not_mem_nil, or_false] at hw
  rcases hw with rfl | rfl | rfl
  ·exact word_free (by decide) (by decide)
  ·exact itoa_wordy hD.1 (by omega)
  ·exact path_wordy hp
  )
 have ht : t = joinSp [wordK 3, itoa D, pathT P] ++ (if true = true then 32 :: T.data.toList else []) := by
  rw [← hT]
  unfold textC
  rw [hb.1, hb.2.1, hb.2.2.1, hb.2.2.2]
  simp [joinSp]
 refine ⟨by rw [ht]; exact hm, ?_⟩
 rw [numRes_small hD.1 (by omega), path_made hPl hp, mkB_of]
 exact finS_mk hO
theorem there_4 {t : Bs} {w0 w1 w2 w3 rest : Bs} {v : C6} (h : headW 4 true t = some ([w0, w1, w2, w3], rest)) (h0 : w0 = wordK 4) (hv : finS 4 (numRes w1) (((0 : Int), true)) (specP (mkB w2)) (mkB w3) (mkB rest) = some v) : readP t = some v := by
 obtain ⟨hj, hx, -, hw⟩ := head_back true 3 t _ _ h
 have qw0 := (hw w0 (by simp)).2
 have qw1 := (hw w1 (by simp)).2
 have qw2 := (hw w2 (by simp)).2
 have qw3 := (hw w3 (by simp)).2
 obtain ⟨hD, hC, hP, hO, rfl⟩ := finS_some hv
 clear hv
 generalize hd : numRes w1 = D at hD hO ⊢
 obtain ⟨D, fD⟩ := D
 simp only at hD hO ⊢
 subst hD
 obtain ⟨i1, a1⟩ := numRes_ok hd
 generalize hp : specP (mkB w2) = P at hP hO ⊢
 obtain ⟨P, fP⟩ := P
 simp only at hP hO ⊢
 subst hP
 obtain ⟨i2, a2⟩ := path_back hp
 simp only [joinSp, if_true] at hj
 have ht : t = w0 ++ 32 :: (w1 ++ 32 :: (w2 ++ 32 :: (w3 ++ 32 :: rest))) := by rw [hj]; try simp
 have c0 : cutW (w0 ++ 32 :: (w1 ++ 32 :: (w2 ++ 32 :: (w3 ++ 32 :: rest)))) = (w0, w1 ++ 32 :: (w2 ++ 32 :: (w3 ++ 32 :: rest)), true) := cutW_make _ _ qw0
 have c1 : cutW (w1 ++ 32 :: (w2 ++ 32 :: (w3 ++ 32 :: rest))) = (w1, w2 ++ 32 :: (w3 ++ 32 :: rest), true) := cutW_make _ _ qw1
 have c2 : cutW (w2 ++ 32 :: (w3 ++ 32 :: rest)) = (w2, w3 ++ 32 :: rest, true) := cutW_make _ _ qw2
 have c3 : cutW (w3 ++ 32 :: rest) = (w3, rest, true) := cutW_make _ _ qw3
 have hk : idxK w0 = 4 := by rw [h0]; exact idxK_word (by decide) (by decide)
 have eT : textC 4 D 0 P (mkB w3) (mkB rest) = t := by
  rw [ht, h0]
  unfold textC
  have : pathK 4 = true ∧ nameK 4 = true ∧ cfgK 4 = false ∧ textK 4 = true := by decide
  rw [this.1, this.2.1, this.2.2.1, this.2.2.2, i1]
  simp [mkB, i2]
 unfold readP
 rw [ht, c0]
 simp only [hk]
 rw [if_neg (by decide)]
 have hb : pathK 4 = true ∧ nameK 4 = true ∧ cfgK 4 = false ∧ textK 4 = true := by decide
 rw [hb.1, hb.2.1, hb.2.2.1, hb.2.2.2]
 rw [ht] at eT
 unfold tailP
 simp only [c1, c2, c3, a1, a2, Bool.false_eq_true, if_true, if_false]
 rw [if_pos (by rw [hO, eT]; simp)]
theorem back_4 {t : Bs} {D C : Int} {P : List Int} {N T : ByteArray} (hO : okc 4 D C P N T = true) (hT : textC 4 D C P N T = t) : headW 4 true t = some ([wordK 4, itoa D, pathT P, N.data.toList], T.data.toList) ∧ finS 4 (numRes (itoa D)) (((0 : Int), true)) (specP (mkB (pathT P))) (mkB N.data.toList) (mkB T.data.toList) = some (4, D, C, P, N, T) := by
 obtain ⟨hK, hD, hPl, hTs, hC, hp, hN1, hN2, hP0, hC0, hT0⟩ := okc_parts hO
 have hb : pathK 4 = true ∧ nameK 4 = true ∧ cfgK 4 = false ∧ textK 4 = true := by decide
 obtain rfl := hC0 hb.2.2.1
 have hm := head_make true T.data.toList (fun h => by cases h) [wordK 4, itoa D, pathT P, N.data.toList] (by simp) (by
  intro w hw
  simp only [List.mem_cons, List.not_mem_nil, or_false] at hw
  rcases hw with rfl | rfl | rfl | rfl
  ·exact word_free (by decide) (by decide)
  ·exact itoa_wordy hD.1 (by omega)
  ·exact path_wordy hp
  ·exact ⟨(tag_some (hN1 hb.2.1)).1, (tag_some (hN1 hb.2.1)).2.1⟩
  )
 have ht : t = joinSp [wordK 4, itoa D, pathT P, N.data.toList] ++ (if true = true then 32 :: T.data.toList else []) := by
  rw [← hT]
  unfold textC
  rw [hb.1, hb.2.1, hb.2.2.1, hb.2.2.2]
  simp [joinSp]
 refine ⟨by rw [ht]; exact hm, ?_⟩
 rw [numRes_small hD.1 (by omega), path_made hPl hp, mkB_of, mkB_of]
 exact finS_mk hO
theorem there_5 {t : Bs} {w0 w1 w2 rest : Bs} {v : C6} (h : headW 3 false t = some ([w0, w1, w2], rest)) (h0 : w0 = wordK 5) (hv : finS 5 (numRes w1) (((0 : Int), true)) (specP (mkB w2)) ((⟨#[]⟩ : ByteArray)) (mkB rest) = some v) : readP t = some v := by
 obtain ⟨hj, hx, -, hw⟩ := head_back false 2 t _ _ h
 have qw0 := (hw w0 (by simp)).2
 have qw1 := (hw w1 (by simp)).2
 have qw2 := (hw w2 (by simp)).2
 obtain ⟨hD, hC, hP, hO, rfl⟩ := finS_some hv
 clear hv
 generalize hd : numRes w1 = D at hD hO ⊢
 obtain ⟨D, fD⟩ := D
 simp only at hD hO ⊢
 subst hD
 obtain ⟨i1, a1⟩ := numRes_ok hd
 generalize hp : specP (mkB w2) = P at hP hO ⊢
 obtain ⟨P, fP⟩ := P
 simp only at hP hO ⊢
 subst hP
 obtain ⟨i2, a2⟩ := path_back hp
 simp only [joinSp, Bool.false_eq_true, if_false, List.append_nil] at hj
 obtain rfl := hx rfl
 have ht : t = w0 ++ 32 :: (w1 ++ 32 :: (w2)) := by rw [hj]; try simp
 have c0 : cutW (w0 ++ 32 :: (w1 ++ 32 :: (w2))) = (w0, w1 ++ 32 :: (w2), true) := cutW_make _ _ qw0
 have c1 : cutW (w1 ++ 32 :: (w2)) = (w1, w2, true) := cutW_make _ _ qw1
 have c2 : cutW (w2) = (w2, [], false) := cutW_whole _ qw2
 have hk : idxK w0 = 5 := by rw [h0]; exact idxK_word (by decide) (by decide)
 have eT : textC 5 D 0 P ((⟨#[]⟩ : ByteArray)) ((⟨#[]⟩ : ByteArray)) = t := by
  rw [ht, h0]
  unfold textC
  have : pathK 5 = true ∧ nameK 5 = false ∧ cfgK 5 = false ∧ textK 5 = false := by decide
  rw [this.1, this.2.1, this.2.2.1, this.2.2.2, i1]
  simp [mkB, i2]
 have e0 : mkB [] = (⟨#[]⟩ : ByteArray) := rfl
 rw [e0] at hO ⊢
 unfold readP
 rw [ht, c0]
 simp only [hk]
 rw [if_neg (by decide)]
 have hb : pathK 5 = true ∧ nameK 5 = false ∧ cfgK 5 = false ∧ textK 5 = false := by decide
 rw [hb.1, hb.2.1, hb.2.2.1, hb.2.2.2]
 rw [ht] at eT
 unfold tailP
 simp only [c1, c2, a1, a2, Bool.false_eq_true, if_true, if_false]
 rw [if_pos (by rw [hO, eT]; simp)]
theorem back_5 {t : Bs} {D C : Int} {P : List Int} {N T : ByteArray} (hO : okc 5 D C P N T = true) (hT : textC 5 D C P N T = t) : headW 3 false t = some ([wordK 5, itoa D, pathT P], T.data.toList) ∧ finS 5 (numRes (itoa D)) (((0 : Int), true)) (specP (mkB (pathT P))) ((⟨#[]⟩ : ByteArray)) (mkB T.data.toList) = some (5, D, C, P, N, T) := by
 obtain ⟨hK, hD, hPl, hTs, hC, hp, hN1, hN2, hP0, hC0, hT0⟩ := okc_parts hO
 have hb : pathK 5 = true ∧ nameK 5 = false ∧ cfgK 5 = false ∧ textK 5 = false := by decide
 obtain rfl := hC0 hb.2.2.1
 obtain rfl := emp_of (hN2 hb.2.1)
 obtain rfl := emp_of (hT0 hb.2.2.2)
 have hm := head_make false [] (fun _ => rfl) [wordK 5, itoa D, pathT P] (by simp) (by
  intro w hw
  simp only [List.mem_cons, List.not_mem_nil, or_false] at hw
  rcases hw with rfl | rfl | rfl
  ·exact word_free (by decide) (by decide)
  ·exact itoa_wordy hD.1 (by omega)
  ·exact path_wordy hp
  )
 have ht : t = joinSp [wordK 5, itoa D, pathT P] ++ (if false = true then 32 :: [] else []) := by
  rw [← hT]
  unfold textC
  rw [hb.1, hb.2.1, hb.2.2.1, hb.2.2.2]
  simp [joinSp]
 refine ⟨by rw [ht]; exact hm, ?_⟩
 rw [numRes_small hD.1 (by omega), path_made hPl hp, mkB_of]
 exact finS_mk hO
theorem there_6 {t : Bs} {w0 w1 w2 rest : Bs} {v : C6} (h : headW 3 true t = some ([w0, w1, w2], rest)) (h0 : w0 = wordK 6) (hv : finS 6 (numRes w1) (numRes w2) ((([] : List Int), true)) ((⟨#[]⟩ : ByteArray)) (mkB rest) = some v) : readP t = some v := by
 obtain ⟨hj, hx, -, hw⟩ := head_back true 2 t _ _ h
 have qw0 := (hw w0 (by simp)).2
 have qw1 := (hw w1 (by simp)).2
 have qw2 := (hw w2 (by simp)).2
 obtain ⟨hD, hC, hP, hO, rfl⟩ := finS_some hv
 clear hv
 generalize hd : numRes w1 = D at hD hO ⊢
 obtain ⟨D, fD⟩ := D
 simp only at hD hO ⊢
 subst hD
 obtain ⟨i1, a1⟩ := numRes_ok hd
 generalize hc : numRes w2 = C at hC hO ⊢
 obtain ⟨C, fC⟩ := C
 simp only at hC hO ⊢
 subst hC
 obtain ⟨i2, a2⟩ := numRes_ok hc
 simp only [joinSp, if_true] at hj
 have ht : t = w0 ++ 32 :: (w1 ++ 32 :: (w2 ++ 32 :: rest)) := by rw [hj]; try simp
 have c0 : cutW (w0 ++ 32 :: (w1 ++ 32 :: (w2 ++ 32 :: rest))) = (w0, w1 ++ 32 :: (w2 ++ 32 :: rest), true) := cutW_make _ _ qw0
 have c1 : cutW (w1 ++ 32 :: (w2 ++ 32 :: rest)) = (w1, w2 ++ 32 :: rest, true) := cutW_make _ _ qw1
 have c2 : cutW (w2 ++ 32 :: rest) = (w2, rest, true) := cutW_make _ _ qw2
 have hk : idxK w0 = 6 := by rw [h0]; exact idxK_word (by decide) (by decide)
 have eT : textC 6 D C ([] : List Int) ((⟨#[]⟩ : ByteArray)) (mkB rest) = t := by
  rw [ht, h0]
  unfold textC
  have : pathK 6 = false ∧ nameK 6 = false ∧ cfgK 6 = true ∧ textK 6 = true := by decide
  rw [this.1, this.2.1, this.2.2.1, this.2.2.2, i1]
  simp [mkB, i2]
 unfold readP
 rw [ht, c0]
 simp only [hk]
 rw [if_neg (by decide)]
 have hb : pathK 6 = false ∧ nameK 6 = false ∧ cfgK 6 = true ∧ textK 6 = true := by decide
 rw [hb.1, hb.2.1, hb.2.2.1, hb.2.2.2]
 rw [ht] at eT
 unfold tailP
 simp only [c1, c2, a1, a2, Bool.false_eq_true, if_true, if_false]
 rw [if_pos (by rw [hO, eT]; simp)]
theorem back_6 {t : Bs} {D C : Int} {P : List Int} {N T : ByteArray} (hO : okc 6 D C P N T = true) (hT : textC 6 D C P N T = t) : headW 3 true t = some ([wordK 6, itoa D, itoa C], T.data.toList) ∧ finS 6 (numRes (itoa D)) (numRes (itoa C)) ((([] : List Int), true)) ((⟨#[]⟩ : ByteArray)) (mkB T.data.toList) = some (6, D, C, P, N, T) := by
 obtain ⟨hK, hD, hPl, hTs, hC, hp, hN1, hN2, hP0, hC0, hT0⟩ := okc_parts hO
 have hb : pathK 6 = false ∧ nameK 6 = false ∧ cfgK 6 = true ∧ textK 6 = true := by decide
 obtain rfl := hP0 hb.1
 obtain rfl := emp_of (hN2 hb.2.1)
 have hm := head_make true T.data.toList (fun h => by cases h) [wordK 6, itoa D, itoa C] (by simp) (by
  intro w hw
  simp only [List.mem_cons, List.not_mem_nil, or_false] at hw
  rcases hw with rfl | rfl | rfl
  ·exact word_free (by decide) (by decide)
  ·exact itoa_wordy hD.1 (by omega)
  ·exact itoa_wordy hC.1 (by omega)
  )
 have ht : t = joinSp [wordK 6, itoa D, itoa C] ++ (if true = true then 32 :: T.data.toList else []) := by
  rw [← hT]
  unfold textC
  rw [hb.1, hb.2.1, hb.2.2.1, hb.2.2.2]
  simp [joinSp]
 refine ⟨by rw [ht]; exact hm, ?_⟩
 rw [numRes_small hD.1 (by omega), numRes_small hC.1 (by omega), mkB_of]
 exact finS_mk hO
theorem there_7 {t : Bs} {w0 w1 rest : Bs} {v : C6} (h : headW 2 true t = some ([w0, w1], rest)) (h0 : w0 = wordK 7) (hv : finS 7 (numRes w1) (((0 : Int), true)) ((([] : List Int), true)) ((⟨#[]⟩ : ByteArray)) (mkB rest) = some v) : readP t = some v := by
 obtain ⟨hj, hx, -, hw⟩ := head_back true 1 t _ _ h
 have qw0 := (hw w0 (by simp)).2
 have qw1 := (hw w1 (by simp)).2
 obtain ⟨hD, hC, hP, hO, rfl⟩ := finS_some hv
 clear hv
 generalize hd : numRes w1 = D at hD hO ⊢
 obtain ⟨D, fD⟩ := D
 simp only at hD hO ⊢
 subst hD
 obtain ⟨i1, a1⟩ := numRes_ok hd
 simp only [joinSp, if_true] at hj
 have ht : t = w0 ++ 32 :: (w1 ++ 32 :: rest) := by rw [hj]; try simp
 have c0 : cutW (w0 ++ 32 :: (w1 ++ 32 :: rest)) = (w0, w1 ++ 32 :: rest, true) := cutW_make _ _ qw0
 have c1 : cutW (w1 ++ 32 :: rest) = (w1, rest, true) := cutW_make _ _ qw1
 have hk : idxK w0 = 7 := by rw [h0]; exact idxK_word (by decide) (by decide)
 have eT : textC 7 D 0 ([] : List Int) ((⟨#[]⟩ : ByteArray)) (mkB rest) = t := by
  rw [ht, h0]
  unfold textC
  have : pathK 7 = false ∧ nameK 7 = false ∧ cfgK 7 = false ∧ textK 7 = true := by decide
  rw [this.1, this.2.1, this.2.2.1, this.2.2.2, i1]
  simp [mkB]
 unfold readP
 rw [ht, c0]
 simp only [hk]
 rw [if_neg (by decide)]
 have hb : pathK 7 = false ∧ nameK 7 = false ∧ cfgK 7 = false ∧ textK 7 = true := by decide
 rw [hb.1, hb.2.1, hb.2.2.1, hb.2.2.2]
 rw [ht] at eT
 unfold tailP
 simp only [c1, a1, Bool.false_eq_true, if_true, if_false]
 rw [if_pos (by rw [hO, eT]; simp)]
theorem back_7 {t : Bs} {D C : Int} {P : List Int} {N T : ByteArray} (hO : okc 7 D C P N T = true) (hT : textC 7 D C P N T = t) : headW 2 true t = some ([wordK 7, itoa D], T.data.toList) ∧ finS 7 (numRes (itoa D)) (((0 : Int), true)) ((([] : List Int), true)) ((⟨#[]⟩ : ByteArray)) (mkB T.data.toList) = some (7, D, C, P, N, T) := by
 obtain ⟨hK, hD, hPl, hTs, hC, hp, hN1, hN2, hP0, hC0, hT0⟩ := okc_parts hO
 have hb : pathK 7 = false ∧ nameK 7 = false ∧ cfgK 7 = false ∧ textK 7 = true := by decide
 obtain rfl := hP0 hb.1
 obtain rfl := hC0 hb.2.2.1
 obtain rfl := emp_of (hN2 hb.2.1)
 have hm := head_make true T.data.toList (fun h => by cases h) [wordK 7, itoa D] (by simp) (by
  intro w hw
  simp only [List.mem_cons, List.not_mem_nil, or_false] at hw
  rcases hw with rfl | rfl
  ·exact word_free (by decide) (by decide)
  ·exact itoa_wordy hD.1 (by omega)
  )
 have ht : t = joinSp [wordK 7, itoa D] ++ (if true = true then 32 :: T.data.toList else []) := by
  rw [← hT]
  unfold textC
  rw [hb.1, hb.2.1, hb.2.2.1, hb.2.2.2]
  simp [joinSp]
 refine ⟨by rw [ht]; exact hm, ?_⟩
 rw [numRes_small hD.1 (by omega), mkB_of]
 exact finS_mk hO
theorem there_8 {t : Bs} {w0 w1 w2 rest : Bs} {v : C6} (h : headW 3 false t = some ([w0, w1, w2], rest)) (h0 : w0 = wordK 8) (hv : finS 8 (numRes w1) (numRes w2) ((([] : List Int), true)) ((⟨#[]⟩ : ByteArray)) (mkB rest) = some v) : readP t = some v := by
 obtain ⟨hj, hx, -, hw⟩ := head_back false 2 t _ _ h
 have qw0 := (hw w0 (by simp)).2
 have qw1 := (hw w1 (by simp)).2
 have qw2 := (hw w2 (by simp)).2
 obtain ⟨hD, hC, hP, hO, rfl⟩ := finS_some hv
 clear hv
 generalize hd : numRes w1 = D at hD hO ⊢
 obtain ⟨D, fD⟩ := D
 simp only at hD hO ⊢
 subst hD
 obtain ⟨i1, a1⟩ := numRes_ok hd
 generalize hc : numRes w2 = C at hC hO ⊢
 obtain ⟨C, fC⟩ := C
 simp only at hC hO ⊢
 subst hC
 obtain ⟨i2, a2⟩ := numRes_ok hc
 simp only [joinSp, Bool.false_eq_true, if_false, List.append_nil] at hj
 obtain rfl := hx rfl
 have ht : t = w0 ++ 32 :: (w1 ++ 32 :: (w2)) := by rw [hj]; try simp
 have c0 : cutW (w0 ++ 32 :: (w1 ++ 32 :: (w2))) = (w0, w1 ++ 32 :: (w2), true) := cutW_make _ _ qw0
 have c1 : cutW (w1 ++ 32 :: (w2)) = (w1, w2, true) := cutW_make _ _ qw1
 have c2 : cutW (w2) = (w2, [], false) := cutW_whole _ qw2
 have hk : idxK w0 = 8 := by rw [h0]; exact idxK_word (by decide) (by decide)
 have eT : textC 8 D C ([] : List Int) ((⟨#[]⟩ : ByteArray)) ((⟨#[]⟩ : ByteArray)) = t := by
  rw [ht, h0]
  unfold textC
  have : pathK 8 = false ∧ nameK 8 = false ∧ cfgK 8 = true ∧ textK 8 = false := by decide
  rw [this.1, this.2.1, this.2.2.1, this.2.2.2, i1]
  simp [mkB, i2]
 have e0 : mkB [] = (⟨#[]⟩ : ByteArray) := rfl
 rw [e0] at hO ⊢
 unfold readP
 rw [ht, c0]
 simp only [hk]
 rw [if_neg (by decide)]
 have hb : pathK 8 = false ∧ nameK 8 = false ∧ cfgK 8 = true ∧ textK 8 = false := by decide
 rw [hb.1, hb.2.1, hb.2.2.1, hb.2.2.2]
 rw [ht] at eT
 unfold tailP
 simp only [c1, c2, a1, a2, Bool.false_eq_true, if_true, if_false]
 rw [if_pos (by rw [hO, eT]; simp)]
theorem back_8 {t : Bs} {D C : Int} {P : List Int} {N T : ByteArray} (hO : okc 8 D C P N T = true) (hT : textC 8 D C P N T = t) : headW 3 false t = some ([wordK 8, itoa D, itoa C], T.data.toList) ∧ finS 8 (numRes (itoa D)) (numRes (itoa C)) ((([] : List Int), true)) ((⟨#[]⟩ : ByteArray)) (mkB T.data.toList) = some (8, D, C, P, N, T) := by
 obtain ⟨hK, hD, hPl, hTs, hC, hp, hN1, hN2, hP0, hC0, hT0⟩ := okc_parts hO
 have hb : pathK 8 = false ∧ nameK 8 = false ∧ cfgK 8 = true ∧ textK 8 = false := by decide
 obtain rfl := hP0 hb.1
 obtain rfl := emp_of (hN2 hb.2.1)
 obtain rfl := emp_of (hT0 hb.2.2.2)
 have hm := head_make false [] (fun _ => rfl) [wordK 8, itoa D, itoa C] (by simp) (by
  intro w hw
  simp only [List.mem_cons, List.not_mem_nil, or_false] at hw
  rcases hw with rfl | rfl | rfl
  ·exact word_free (by decide) (by decide)
  ·exact itoa_wordy hD.1 (by omega)
  ·exact itoa_wordy hC.1 (by omega)
  )
 have ht : t = joinSp [wordK 8, itoa D, itoa C] ++ (if false = true then 32 :: [] else []) := by
  rw [← hT]
  unfold textC
  rw [hb.1, hb.2.1, hb.2.2.1, hb.2.2.2]
  simp [joinSp]
 refine ⟨by rw [ht]; exact hm, ?_⟩
 rw [numRes_small hD.1 (by omega), numRes_small hC.1 (by omega), mkB_of]
 exact finS_mk hO
theorem there_9 {t : Bs} {w0 w1 rest : Bs} {v : C6} (h : headW 2 false t = some ([w0, w1], rest)) (h0 : w0 = wordK 9) (hv : finS 9 (numRes w1) (((0 : Int), true)) ((([] : List Int), true)) ((⟨#[]⟩ : ByteArray)) (mkB rest) = some v) : readP t = some v := by
 obtain ⟨hj, hx, -, hw⟩ := head_back false 1 t _ _ h
 have qw0 := (hw w0 (by simp)).2
 have qw1 := (hw w1 (by simp)).2
 obtain ⟨hD, hC, hP, hO, rfl⟩ := finS_some hv
 clear hv
 generalize hd : numRes w1 = D at hD hO ⊢
 obtain ⟨D, fD⟩ := D
 simp only at hD hO ⊢
 subst hD
 obtain ⟨i1, a1⟩ := numRes_ok hd
 simp only [joinSp, Bool.false_eq_true, if_false, List.append_nil] at hj
 obtain rfl := hx rfl
 have ht : t = w0 ++ 32 :: (w1) := by rw [hj]; try simp
 have c0 : cutW (w0 ++ 32 :: (w1)) = (w0, w1, true) := cutW_make _ _ qw0
 have c1 : cutW (w1) = (w1, [], false) := cutW_whole _ qw1
 have hk : idxK w0 = 9 := by rw [h0]; exact idxK_word (by decide) (by decide)
 have eT : textC 9 D 0 ([] : List Int) ((⟨#[]⟩ : ByteArray)) ((⟨#[]⟩ : ByteArray)) = t := by
  rw [ht, h0]
  unfold textC
  have : pathK 9 = false ∧ nameK 9 = false ∧ cfgK 9 = false ∧ textK 9 = false := by decide
  rw [this.1, this.2.1, this.2.2.1, this.2.2.2, i1]
  simp [mkB]
 have e0 : mkB [] = (⟨#[]⟩ : ByteArray) := rfl
 rw [e0] at hO ⊢
 unfold readP
 rw [ht, c0]
 simp only [hk]
 rw [if_neg (by decide)]
 have hb : pathK 9 = false ∧ nameK 9 = false ∧ cfgK 9 = false ∧ textK 9 = false := by decide
 rw [hb.1, hb.2.1, hb.2.2.1, hb.2.2.2]
 rw [ht] at eT
 unfold tailP
 simp only [c1, a1, Bool.false_eq_true, if_true, if_false]
 rw [if_pos (by rw [hO, eT]; simp)]
theorem back_9 {t : Bs} {D C : Int} {P : List Int} {N T : ByteArray} (hO : okc 9 D C P N T = true) (hT : textC 9 D C P N T = t) : headW 2 false t = some ([wordK 9, itoa D], T.data.toList) ∧ finS 9 (numRes (itoa D)) (((0 : Int), true)) ((([] : List Int), true)) ((⟨#[]⟩ : ByteArray)) (mkB T.data.toList) = some (9, D, C, P, N, T) := by
 obtain ⟨hK, hD, hPl, hTs, hC, hp, hN1, hN2, hP0, hC0, hT0⟩ := okc_parts hO
 have hb : pathK 9 = false ∧ nameK 9 = false ∧ cfgK 9 = false ∧ textK 9 = false := by decide
 obtain rfl := hP0 hb.1
 obtain rfl := hC0 hb.2.2.1
 obtain rfl := emp_of (hN2 hb.2.1)
 obtain rfl := emp_of (hT0 hb.2.2.2)
 have hm := head_make false [] (fun _ => rfl) [wordK 9, itoa D] (by simp) (by
  intro w hw
  simp only [List.mem_cons, List.not_mem_nil, or_false] at hw
  rcases hw with rfl | rfl
  ·exact word_free (by decide) (by decide)
  ·exact itoa_wordy hD.1 (by omega)
  )
 have ht : t = joinSp [wordK 9, itoa D] ++ (if false = true then 32 :: [] else []) := by
  rw [← hT]
  unfold textC
  rw [hb.1, hb.2.1, hb.2.2.1, hb.2.2.2]
  simp [joinSp]
 refine ⟨by rw [ht]; exact hm, ?_⟩
 rw [numRes_small hD.1 (by omega), mkB_of]
 exact finS_mk hO
theorem cutW_eq {w r t : Bs} (h : w ++ 32 :: r = t) (hw : (32 : UInt8) ∉ w) : (cutW t).2.2 = true ∧ (cutW t).1 = w := by
 rw [← h, cutW_make w r hw]
 exact ⟨rfl, rfl⟩
theorem len_le_of {n : Nat} {x : Bool} {t : Bs} {ws : List Bs} {rest : Bs} (h : headW (n + 1) x t = some (ws, rest)) : ∀ w ∈ ws, w.length ≤ t.length := by
 obtain ⟨hj, -, -, -⟩ := head_back x n t ws rest h
 have key : ∀ ws : List Bs, ∀ w ∈ ws, w.length ≤ (joinSp ws).length := by
  intro ws
  induction ws with
  | nil => intro w hw; cases hw
  | cons v r ih =>
   intro w hw
   cases r with
   | nil =>
    rw [List.mem_singleton.1 hw]
    exact Nat.le_refl _
   | cons a b =>
    have e : joinSp (v :: a :: b) = v ++ 32 :: joinSp (a :: b) := rfl
    rw [e, List.length_append, List.length_cons]
    rcases List.mem_cons.1 hw with rfl | hw
    ·omega
    ·have := ih w hw
     omega
 intro w hw
 have := key ws w hw
 rw [hj, List.length_append]
 omega
theorem first_is {n : Nat} {x : Bool} {t : Bs} {w0 : Bs} {ws : List Bs} {rest : Bs} (h : headW (n + 1) x t = some (w0 :: ws, rest)) : (cutW t).1 = w0 := by
 rw [headW] at h
 split at h
 ·cases h
 ·split at h
  ·cases h
  ·obtain ⟨p, -, h⟩ := Option.map_eq_some_iff.1 h
   simp only [Prod.mk.injEq, List.cons.injEq] at h
   exact h.1.1
theorem spec_read (t : ByteArray) (hs : t.size ≤ 65536) : ∃ r, Ev (fun k => spec_l12ReadCall.f k t) r ∧ toldC r = readP t.data.toList := by
 have hgo : ∀ r, Ev (fun k => Le9 k t (foldK t 9)) r → Ev (fun k => spec_l12ReadCall.f k t) r := fun r h => l0_all t r h 9 0 rfl (by omega)
 by_cases h0 : foldK t 9 = 0
 ·rw [h0] at hgo
  refine ⟨_, hgo _ (l9_none t), ?_⟩
  cases hr : readP t.data.toList with
  | none => rfl
  | some v =>
   obtain ⟨hO, hT⟩ := read_ok hr
   obtain ⟨hK, -⟩ := okc_parts hO
   exfalso
   unfold textC at hT
   have hc := cutW_eq hT (word_free hK.1 hK.2).2
   exact fold_zero h0 hK.1 hK.2 hc.1 hc.2
 ·obtain ⟨g1, g2, g3, g4⟩ := fold_hit rfl h0
  generalize hK : foldK t 9 = K at h0 g1 g2 g4 hgo
  have hall : ∀ v, readP t.data.toList = some v → v.1 = K := by
   intro v hr
   obtain ⟨hO, hT⟩ := read_ok hr
   obtain ⟨hKv, -⟩ := okc_parts hO
   unfold textC at hT
   have hc := cutW_eq hT (word_free hKv.1 hKv.2).2
   rw [← idxK_word hKv.1 hKv.2, ← idxK_word g1 g2, ← g4, hc.2]
  have hz := size_len t
  by_cases k1 : K = 1
  ·subst k1
   cases hh : headW 3 false t.data.toList with
   | none =>
    obtain ⟨r, h1, h2⟩ := miss_1 t hs hh
    refine ⟨r, hgo r h1, ?_⟩
    rw [h2]
    cases hr : readP t.data.toList with
    | none => rfl
    | some v =>
     obtain ⟨hO, hT⟩ := read_ok hr
     have hv := hall v hr
     rw [hv] at hO hT
     rw [(back_1 hO hT).1] at hh
     cases hh
   | some p =>
    obtain ⟨wl, rest⟩ := p
    have hb := head_back false 2 _ _ _ hh
    obtain ⟨w0, w1, w2, rfl⟩ : ∃ w0 w1 w2, wl = [w0, w1, w2] := by
     have := hb.2.2.1
     rcases wl with _ | ⟨w0, l0⟩
     ·simp at this
     rcases l0 with _ | ⟨w1, l1⟩
     ·simp at this
     rcases l1 with _ | ⟨w2, l2⟩
     ·simp at this
     rcases l2 with _ | ⟨_, _⟩
     ·exact ⟨_, _, _, rfl⟩
     ·simp at this
    have hw0 : w0 = wordK 1 := by rw [← first_is hh]; exact g4
    obtain ⟨r, h1, h2⟩ := kind_1 t hs w0 w1 w2 rest hh (fun w hw => by have := len_le_of hh w hw; omega)
    refine ⟨r, hgo r h1, ?_⟩
    rw [h2]
    cases hr : readP t.data.toList with
    | none =>
     cases hf : finS 1 _ _ _ _ _ with
     | none => rfl
     | some v => rw [there_1 hh hw0 hf] at hr; cases hr
    | some v =>
     obtain ⟨hO, hT⟩ := read_ok hr
     have hv := hall v hr
     rw [hv] at hO hT
     have hB := back_1 hO hT
     rw [hB.1] at hh
     simp only [Option.some.injEq, Prod.mk.injEq, List.cons.injEq, and_true] at hh
     obtain ⟨⟨rfl, rfl, rfl⟩, rfl⟩ := hh
     rw [hB.2, ← hv]
  by_cases k2 : K = 2
  ·subst k2
   cases hh : headW 4 false t.data.toList with
   | none =>
    obtain ⟨r, h1, h2⟩ := miss_2 t hs hh
    refine ⟨r, hgo r h1, ?_⟩
    rw [h2]
    cases hr : readP t.data.toList with
    | none => rfl
    | some v =>
     obtain ⟨hO, hT⟩ := read_ok hr
     have hv := hall v hr
     rw [hv] at hO hT
     rw [(back_2 hO hT).1] at hh
     cases hh
   | some p =>
    obtain ⟨wl, rest⟩ := p
    have hb := head_back false 3 _ _ _ hh
    obtain ⟨w0, w1, w2, w3, rfl⟩ : ∃ w0 w1 w2 w3, wl = [w0, w1, w2, w3] := by
     have := hb.2.2.1
     rcases wl with _ | ⟨w0, l0⟩
     ·simp at this
     rcases l0 with _ | ⟨w1, l1⟩
     ·simp at this
     rcases l1 with _ | ⟨w2, l2⟩
     ·simp at this
     rcases l2 with _ | ⟨w3, l3⟩
     ·simp at this
     rcases l3 with _ | ⟨_, _⟩
     ·exact ⟨_, _, _, _, rfl⟩
     ·simp at this
    have hw0 : w0 = wordK 2 := by rw [← first_is hh]; exact g4
    obtain ⟨r, h1, h2⟩ := kind_2 t hs w0 w1 w2 w3 rest hh (fun w hw => by have := len_le_of hh w hw; omega)
    refine ⟨r, hgo r h1, ?_⟩
    rw [h2]
    cases hr : readP t.data.toList with
    | none =>
     cases hf : finS 2 _ _ _ _ _ with
     | none => rfl
     | some v => rw [there_2 hh hw0 hf] at hr; cases hr
    | some v =>
     obtain ⟨hO, hT⟩ := read_ok hr
     have hv := hall v hr
     rw [hv] at hO hT
     have hB := back_2 hO hT
     rw [hB.1] at hh
     simp only [Option.some.injEq, Prod.mk.injEq, List.cons.injEq, and_true] at hh
     obtain ⟨⟨rfl, rfl, rfl, rfl⟩, rfl⟩ := hh
     rw [hB.2, ← hv]
  by_cases k3 : K = 3
  ·subst k3
   cases hh : headW 3 true t.data.toList with
   | none =>
    obtain ⟨r, h1, h2⟩ := miss_3 t hs hh
    refine ⟨r, hgo r h1, ?_⟩
    rw [h2]
    cases hr : readP t.data.toList with
    | none => rfl
    | some v =>
     obtain ⟨hO, hT⟩ := read_ok hr
     have hv := hall v hr
     rw [hv] at hO hT
     rw [(back_3 hO hT).1] at hh
     cases hh
   | some p =>
    obtain ⟨wl, rest⟩ := p
    have hb := head_back true 2 _ _ _ hh
    obtain ⟨w0, w1, w2, rfl⟩ : ∃ w0 w1 w2, wl = [w0, w1, w2] := by
     have := hb.2.2.1
     rcases wl with _ | ⟨w0, l0⟩
     ·simp at this
     rcases l0 with _ | ⟨w1, l1⟩
     ·simp at this
     rcases l1 with _ | ⟨w2, l2⟩
     ·simp at this
     rcases l2 with _ | ⟨_, _⟩
     ·exact ⟨_, _, _, rfl⟩
     ·simp at this
    have hw0 : w0 = wordK 3 := by rw [← first_is hh]; exact g4
    obtain ⟨r, h1, h2⟩ := kind_3 t hs w0 w1 w2 rest hh (fun w hw => by have := len_le_of hh w hw; omega)
    refine ⟨r, hgo r h1, ?_⟩
    rw [h2]
    cases hr : readP t.data.toList with
    | none =>
     cases hf : finS 3 _ _ _ _ _ with
     | none => rfl
     | some v => rw [there_3 hh hw0 hf] at hr; cases hr
    | some v =>
     obtain ⟨hO, hT⟩ := read_ok hr
     have hv := hall v hr
     rw [hv] at hO hT
     have hB := back_3 hO hT
     rw [hB.1] at hh
     simp only [Option.some.injEq, Prod.mk.injEq, List.cons.injEq, and_true] at hh
     obtain ⟨⟨rfl, rfl, rfl⟩, rfl⟩ := hh
     rw [hB.2, ← hv]
  by_cases k4 : K = 4
  ·subst k4
   cases hh : headW 4 true t.data.toList with
   | none =>
    obtain ⟨r, h1, h2⟩ := miss_4 t hs hh
    refine ⟨r, hgo r h1, ?_⟩
    rw [h2]
    cases hr : readP t.data.toList with
    | none => rfl
    | some v =>
     obtain ⟨hO, hT⟩ := read_ok hr
     have hv := hall v hr
     rw [hv] at hO hT
     rw [(back_4 hO hT).1] at hh
     cases hh
   | some p =>
    obtain ⟨wl, rest⟩ := p
    have hb := head_back true 3 _ _ _ hh
    obtain ⟨w0, w1, w2, w3, rfl⟩ : ∃ w0 w1 w2 w3, wl = [w0, w1, w2, w3] := by
     have := hb.2.2.1
     rcases wl with _ | ⟨w0, l0⟩
     ·simp at this
     rcases l0 with _ | ⟨w1, l1⟩
     ·simp at this
     rcases l1 with _ | ⟨w2, l2⟩
     ·simp at this
     rcases l2 with _ | ⟨w3, l3⟩
     ·simp at this
     rcases l3 with _ | ⟨_, _⟩
     ·exact ⟨_, _, _, _, rfl⟩
     ·simp at this
    have hw0 : w0 = wordK 4 := by rw [← first_is hh]; exact g4
    obtain ⟨r, h1, h2⟩ := kind_4 t hs w0 w1 w2 w3 rest hh (fun w hw => by have := len_le_of hh w hw; omega)
    refine ⟨r, hgo r h1, ?_⟩
    rw [h2]
    cases hr : readP t.data.toList with
    | none =>
     cases hf : finS 4 _ _ _ _ _ with
     | none => rfl
     | some v => rw [there_4 hh hw0 hf] at hr; cases hr
    | some v =>
     obtain ⟨hO, hT⟩ := read_ok hr
     have hv := hall v hr
     rw [hv] at hO hT
     have hB := back_4 hO hT
     rw [hB.1] at hh
     simp only [Option.some.injEq, Prod.mk.injEq, List.cons.injEq, and_true] at hh
     obtain ⟨⟨rfl, rfl, rfl, rfl⟩, rfl⟩ := hh
     rw [hB.2, ← hv]
  by_cases k5 : K = 5
  ·subst k5
   cases hh : headW 3 false t.data.toList with
   | none =>
    obtain ⟨r, h1, h2⟩ := miss_5 t hs hh
    refine ⟨r, hgo r h1, ?_⟩
    rw [h2]
    cases hr : readP t.data.toList with
    | none => rfl
    | some v =>
     obtain ⟨hO, hT⟩ := read_ok hr
     have hv := hall v hr
     rw [hv] at hO hT
     rw [(back_5 hO hT).1] at hh
     cases hh
   | some p =>
    obtain ⟨wl, rest⟩ := p
    have hb := head_back false 2 _ _ _ hh
    obtain ⟨w0, w1, w2, rfl⟩ : ∃ w0 w1 w2, wl = [w0, w1, w2] := by
     have := hb.2.2.1
     rcases wl with _ | ⟨w0, l0⟩
     ·simp at this
     rcases l0 with _ | ⟨w1, l1⟩
     ·simp at this
     rcases l1 with _ | ⟨w2, l2⟩
     ·simp at this
     rcases l2 with _ | ⟨_, _⟩
     ·exact ⟨_, _, _, rfl⟩
     ·simp at this
    have hw0 : w0 = wordK 5 := by rw [← first_is hh]; exact g4
    obtain ⟨r, h1, h2⟩ := kind_5 t hs w0 w1 w2 rest hh (fun w hw => by have := len_le_of hh w hw; omega)
    refine ⟨r, hgo r h1, ?_⟩
    rw [h2]
    cases hr : readP t.data.toList with
    | none =>
     cases hf : finS 5 _ _ _ _ _ with
     | none => rfl
     | some v => rw [there_5 hh hw0 hf] at hr; cases hr
    | some v =>
     obtain ⟨hO, hT⟩ := read_ok hr
     have hv := hall v hr
     rw [hv] at hO hT
     have hB := back_5 hO hT
     rw [hB.1] at hh
     simp only [Option.some.injEq, Prod.mk.injEq, List.cons.injEq, and_true] at hh
     obtain ⟨⟨rfl, rfl, rfl⟩, rfl⟩ := hh
     rw [hB.2, ← hv]
  by_cases k6 : K = 6
  ·subst k6
   cases hh : headW 3 true t.data.toList with
   | none =>
    obtain ⟨r, h1, h2⟩ := miss_6 t hs hh
    refine ⟨r, hgo r h1, ?_⟩
    rw [h2]
    cases hr : readP t.data.toList with
    | none => rfl
    | some v =>
     obtain ⟨hO, hT⟩ := read_ok hr
     have hv := hall v hr
     rw [hv] at hO hT
     rw [(back_6 hO hT).1] at hh
     cases hh
   | some p =>
    obtain ⟨wl, rest⟩ := p
    have hb := head_back true 2 _ _ _ hh
    obtain ⟨w0, w1, w2, rfl⟩ : ∃ w0 w1 w2, wl = [w0, w1, w2] := by
     have := hb.2.2.1
     rcases wl with _ | ⟨w0, l0⟩
     ·simp at this
     rcases l0 with _ | ⟨w1, l1⟩
     ·simp at this
     rcases l1 with _ | ⟨w2, l2⟩
     ·simp at this
     rcases l2 with _ | ⟨_, _⟩
     ·exact ⟨_, _, _, rfl⟩
     ·simp at this
    have hw0 : w0 = wordK 6 := by rw [← first_is hh]; exact g4
    obtain ⟨r, h1, h2⟩ := kind_6 t hs w0 w1 w2 rest hh (fun w hw => by have := len_le_of hh w hw; omega)
    refine ⟨r, hgo r h1, ?_⟩
    rw [h2]
    cases hr : readP t.data.toList with
    | none =>
     cases hf : finS 6 _ _ _ _ _ with
     | none => rfl
     | some v => rw [there_6 hh hw0 hf] at hr; cases hr
    | some v =>
     obtain ⟨hO, hT⟩ := read_ok hr
     have hv := hall v hr
     rw [hv] at hO hT
     have hB := back_6 hO hT
     rw [hB.1] at hh
     simp only [Option.some.injEq, Prod.mk.injEq, List.cons.injEq, and_true] at hh
     obtain ⟨⟨rfl, rfl, rfl⟩, rfl⟩ := hh
     rw [hB.2, ← hv]
  by_cases k7 : K = 7
  ·subst k7
   cases hh : headW 2 true t.data.toList with
   | none =>
    obtain ⟨r, h1, h2⟩ := miss_7 t hs hh
    refine ⟨r, hgo r h1, ?_⟩
    rw [h2]
    cases hr : readP t.data.toList with
    | none => rfl
    | some v =>
     obtain ⟨hO, hT⟩ := read_ok hr
     have hv := hall v hr
     rw [hv] at hO hT
     rw [(back_7 hO hT).1] at hh
     cases hh
   | some p =>
    obtain ⟨wl, rest⟩ := p
    have hb := head_back true 1 _ _ _ hh
    obtain ⟨w0, w1, rfl⟩ : ∃ w0 w1, wl = [w0, w1] := by
     have := hb.2.2.1
     rcases wl with _ | ⟨w0, l0⟩
     ·simp at this
     rcases l0 with _ | ⟨w1, l1⟩
     ·simp at this
     rcases l1 with _ | ⟨_, _⟩
     ·exact ⟨_, _, rfl⟩
     ·simp at this
    have hw0 : w0 = wordK 7 := by rw [← first_is hh]; exact g4
    obtain ⟨r, h1, h2⟩ := kind_7 t hs w0 w1 rest hh (fun w hw => by have := len_le_of hh w hw; omega)
    refine ⟨r, hgo r h1, ?_⟩
    rw [h2]
    cases hr : readP t.data.toList with
    | none =>
     cases hf : finS 7 _ _ _ _ _ with
     | none => rfl
     | some v => rw [there_7 hh hw0 hf] at hr; cases hr
    | some v =>
     obtain ⟨hO, hT⟩ := read_ok hr
     have hv := hall v hr
     rw [hv] at hO hT
     have hB := back_7 hO hT
     rw [hB.1] at hh
     simp only [Option.some.injEq, Prod.mk.injEq, List.cons.injEq, and_true] at hh
     obtain ⟨⟨rfl, rfl⟩, rfl⟩ := hh
     rw [hB.2, ← hv]
  by_cases k8 : K = 8
  ·subst k8
   cases hh : headW 3 false t.data.toList with
   | none =>
    obtain ⟨r, h1, h2⟩ := miss_8 t hs hh
    refine ⟨r, hgo r h1, ?_⟩
    rw [h2]
    cases hr : readP t.data.toList with
    | none => rfl
    | some v =>
     obtain ⟨hO, hT⟩ := read_ok hr
     have hv := hall v hr
     rw [hv] at hO hT
     rw [(back_8 hO hT).1] at hh
     cases hh
   | some p =>
    obtain ⟨wl, rest⟩ := p
    have hb := head_back false 2 _ _ _ hh
    obtain ⟨w0, w1, w2, rfl⟩ : ∃ w0 w1 w2, wl = [w0, w1, w2] := by
     have := hb.2.2.1
     rcases wl with _ | ⟨w0, l0⟩
     ·simp at this
     rcases l0 with _ | ⟨w1, l1⟩
     ·simp at this
     rcases l1 with _ | ⟨w2, l2⟩
     ·simp at this
     rcases l2 with _ | ⟨_, _⟩
     ·exact ⟨_, _, _, rfl⟩
     ·simp at this
    have hw0 : w0 = wordK 8 := by rw [← first_is hh]; exact g4
    obtain ⟨r, h1, h2⟩ := kind_8 t hs w0 w1 w2 rest hh (fun w hw => by have := len_le_of hh w hw; omega)
    refine ⟨r, hgo r h1, ?_⟩
    rw [h2]
    cases hr : readP t.data.toList with
    | none =>
     cases hf : finS 8 _ _ _ _ _ with
     | none => rfl
     | some v => rw [there_8 hh hw0 hf] at hr; cases hr
    | some v =>
     obtain ⟨hO, hT⟩ := read_ok hr
     have hv := hall v hr
     rw [hv] at hO hT
     have hB := back_8 hO hT
     rw [hB.1] at hh
     simp only [Option.some.injEq, Prod.mk.injEq, List.cons.injEq, and_true] at hh
     obtain ⟨⟨rfl, rfl, rfl⟩, rfl⟩ := hh
     rw [hB.2, ← hv]
  by_cases k9 : K = 9
  ·subst k9
   cases hh : headW 2 false t.data.toList with
   | none =>
    obtain ⟨r, h1, h2⟩ := miss_9 t hs hh
    refine ⟨r, hgo r h1, ?_⟩
    rw [h2]
    cases hr : readP t.data.toList with
    | none => rfl
    | some v =>
     obtain ⟨hO, hT⟩ := read_ok hr
     have hv := hall v hr
     rw [hv] at hO hT
     rw [(back_9 hO hT).1] at hh
     cases hh
   | some p =>
    obtain ⟨wl, rest⟩ := p
    have hb := head_back false 1 _ _ _ hh
    obtain ⟨w0, w1, rfl⟩ : ∃ w0 w1, wl = [w0, w1] := by
     have := hb.2.2.1
     rcases wl with _ | ⟨w0, l0⟩
     ·simp at this
     rcases l0 with _ | ⟨w1, l1⟩
     ·simp at this
     rcases l1 with _ | ⟨_, _⟩
     ·exact ⟨_, _, rfl⟩
     ·simp at this
    have hw0 : w0 = wordK 9 := by rw [← first_is hh]; exact g4
    obtain ⟨r, h1, h2⟩ := kind_9 t hs w0 w1 rest hh (fun w hw => by have := len_le_of hh w hw; omega)
    refine ⟨r, hgo r h1, ?_⟩
    rw [h2]
    cases hr : readP t.data.toList with
    | none =>
     cases hf : finS 9 _ _ _ _ _ with
     | none => rfl
     | some v => rw [there_9 hh hw0 hf] at hr; cases hr
    | some v =>
     obtain ⟨hO, hT⟩ := read_ok hr
     have hv := hall v hr
     rw [hv] at hO hT
     have hB := back_9 hO hT
     rw [hB.1] at hh
     simp only [Option.some.injEq, Prod.mk.injEq, List.cons.injEq, and_true] at hh
     obtain ⟨⟨rfl, rfl⟩, rfl⟩ := hh
     rw [hB.2, ← hv]
  exact absurd (show False by omega) id
end Go.Proofs.YtfjnlliilnmfaaaGreatDoor.PureRead
end
