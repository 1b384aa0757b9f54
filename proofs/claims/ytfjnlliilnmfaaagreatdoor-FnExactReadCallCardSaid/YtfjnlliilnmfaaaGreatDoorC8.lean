/-
  WRITTEN BY wip/tools/prune.py out of this claim's texts: the declarations that the theorem comes to, and no others. In it: Rd.
-/
import Derived.Test.YtfjnlliilnmfaaaGreatDoorC7
section
set_option linter.unusedVariables false
set_option linter.unusedSimpArgs false
namespace Go.Proofs.YtfjnlliilnmfaaaGreatDoor.RC
open Go.RowKit Go.Proofs.YtfjnlliilnmfaaaGreatDoorW.PrintWords Go.Proofs.YtfjnlliilnmfaaaGreatDoorW.PrintLast Go.Proofs.YtfjnlliilnmfaaaGreatDoorW.PrintMore Go.Proofs.YtfjnlliilnmfaaaGreatDoor.Given Go.Proofs.YtfjnlliilnmfaaaGreatDoor.PRCa
theorem wpAnyLast_more {P : Program} {ops : Array Oper} {Q : Exit → Act → World → Prop} {md : Region.Mode} {S S' : World → Prop} (hs : ∀ w, S' w → S w) :
  ∀ {fuel : Nat} {l : Array Bool} {a : Act} {w : World}, S' w → wpAnyLast P md ops Q S' [] fuel l a w → wpAnyLast P md ops Q S [] fuel l a w
 | 0, _, _, _, _, h => h
 | fuel + 1, l, a, w, hw, h => ⟨h.1, fun i hi => wpOp_mono (fun a' w' h' => ⟨fun _ _ => hs w' (h'.1 (by simp) hw), wpAnyLast_more hs (h'.1 (by simp) hw) h'.2⟩) (h.2 i hi)⟩
theorem bt_nat' (s : ByteArray) (i : Nat) (h : i < s.size) : bt s (i : Int) = ((s[i]'h).toNat : Int) := by
 unfold bt
 rw [dif_pos (by simpa using h)]
 rfl
def W9 : List ByteArray := (spec_l12Calls.f).getD []
theorem W9_is : spec_l12Calls.f = some W9 := rfl
theorem W9_length : W9.length = 9 := rfl
def hit (t x : ByteArray) : Bool := decide (x.size < t.size) && ((t.extract 0 x.size).toList == x.toList && (bt t (x.size : Int) == 32))
def T6 : Bool × List (List Nat × List Nat) := (true, [([], []), ([0], [0]), ([], []), ([1, 2], [1, 2]), ([3], [3]), ([4], [4]), ([4], [4]), ([5, 6, 4], [4, 5, 6]), ([4, 4], [4]), ([4], [4]), ([8, 9, 4], [4, 8, 9]), ([10, 4], [4, 10]), ([7, 11, 4], [4, 7, 11]), ([4, 12], [4, 12]), ([13, 8], [13]), ([14], [14]), ([14], [14]), ([15, 16, 14], [14, 15, 16]), ([17, 14], [14, 17]), ([14, 18], [14, 18])])
def B6 : List Nat := [0, 1, 0, 7, 15, 31, 31, 127, 31, 31, 799, 1823, 4095, 8191, 16383, 32767, 32767, 131071, 262143, 524287]
theorem tab6 : rtab .any (opsOf Tryz.f9 6) = T6 := by kernel_rfl
theorem bits6 : waitsOk T6.2 B6 = true := by kernel_rfl
def T30 : Bool × List (List Nat × List Nat) := (true, [([], []), ([], []), ([1], [1]), ([2], [2]), ([2, 3], [2, 3]), ([4, 2], [4]), ([5], [5]), ([6, 5, 5], [5, 6]), ([5, 7], [5, 7]), ([0, 7, 0], [0]), ([8, 9, 0, 1, 2, 3, 4, 5, 6, 7, 8, 9], [8])])
def B30 : List Nat := [0, 0, 2, 6, 14, 30, 62, 126, 254, 255, 1023]
theorem tab30 : rtab .any (opsOf Tryz.f9 30) = T30 := by kernel_rfl
theorem bits30 : waitsOk T30.2 B30 = true := by kernel_rfl
theorem six_far {W : World} {g h : Nat} (hne : h ≠ g) (u0 u1 u2 u3 u4 u5 : Value) : ((((((W.setCell ⟨g, 0, none⟩ u0).setCell ⟨g, 1, none⟩ u1).setCell ⟨g, 2, none⟩ u2).setCell ⟨g, 3, none⟩ u3).setCell ⟨g, 4, none⟩ u4).setCell ⟨g, 5, none⟩ u5).heap[h]? = W.heap[h]? := by
 rw [Below.heap_setCell _ _ _ _ hne, Below.heap_setCell _ _ _ _ hne, Below.heap_setCell _ _ _ _ hne, Below.heap_setCell _ _ _ _ hne, Below.heap_setCell _ _ _ _ hne, Below.heap_setCell _ _ _ _ hne]
theorem six_put {W : World} {g : Nat} {t : TypeId} {c0 c1 c2 c3 c4 c5 : Value} (h : W.heap[g]? = some (.cells #[c0, c1, c2, c3, c4, c5] t (0, 0))) (u0 u1 u2 u3 u4 u5 : Value) : ((((((W.setCell ⟨g, 0, none⟩ u0).setCell ⟨g, 1, none⟩ u1).setCell ⟨g, 2, none⟩ u2).setCell ⟨g, 3, none⟩ u3).setCell ⟨g, 4, none⟩ u4).setCell ⟨g, 5, none⟩ u5).heap[g]? = some (.cells #[u0, u1, u2, u3, u4, u5] t (0, 0)) :=
 blk_put (blk_put (blk_put (blk_put (blk_put (blk_put h 0 u0 rfl) 1 u1 rfl) 2 u2 rfl) 3 u3 rfl) 4 u4 rfl) 5 u5 rfl
set_option maxHeartbeats 4000000 in
set_option maxRecDepth 100000 in
theorem reg6 {Q : Exit → Act → World → Prop} {t : ByteArray} {i : Int} (h0 : 0 ≤ i) (h9 : i < 9) {s1 s2 s3 s4 s7 s8 s9 s10 s11 s12 s13 s14 s15 s16 s17 s18 s19 s20 s21 s22 s23 s24 s25 s26 s27 s28 s29 s30 s31 s32 s33 s34 s35 s36 s37 s38 s39 s40 s41 s42 s43 s44 s45 s46 s47 s48 s49 s50 s51 s52 s53 s54 s55 s56 s57 s58 s59 s60 s61 s62 s63 s64 s65 s66 s67 s68 s69 s70 s71 s72 s73 s74 s75 s76 s77 s78 s79 s80 s81 s82 s83 s84 s85 s86 s87 s88 s89 s90 s91 s92 s93 s94 s95 s96 s97 s98 s99 s100 s101 s102 s103 s104 s105 s106 s107 s108 s109 s110 s111 s112 s113 s114 s115 s116 s117 s118 s119 s120 s121 s122 s123 s124 s125 s126 : Value} {W : World}
  (hp : ∀ N v c a w, Q (.panic c) (Act.put a (some N) v) w → Q (.panic c) a w) (hQ : ∀ (v25 v26 v27 v28 v29 v30 v31 v32 v33 v34 v35 v36 v37 v38 v39 v40 v41 v42 v43 : Value) (W' : World), Below W.heap.size W W' → Q .normal ⟨#[.string t, s1, s2, s3, s4, .int .i64 i, .int .i64 ((rdOf ByteArray.empty W9 i).size : Int), s7, s8, s9, s10, s11, s12, s13, s14, s15, s16, s17, s18, s19, s20, s21, s22, s23, s24, v25, v26, v27, v28, v29, v30, v31, v32, v33, v34, v35, v36, v37, v38, v39, v40, v41, v42, v43, .bool (hit t (rdOf ByteArray.empty W9 i)), s45, s46, s47, s48, s49, s50, s51, s52, s53, s54, s55, s56, s57, s58, s59, s60, s61, s62, s63, s64, s65, s66, s67, s68, s69, s70, s71, s72, s73, s74, s75, s76, s77, s78, s79, s80, s81, s82, s83, s84, s85, s86, s87, s88, s89, s90, s91, s92, s93, s94, s95, s96, s97, s98, s99, s100, s101, s102, s103, s104, s105, s106, s107, s108, s109, s110, s111, s112, s113, s114, s115, s116, s117, s118, s119, s120, s121, s122, s123, s124, s125, s126], []⟩ W') :
  (Code.region 6 (opsOf Tryz.f9 6) true).wp Tryz.prog Q ⟨#[.string t, s1, s2, s3, s4, .int .i64 i, .int .i64 ((rdOf ByteArray.empty W9 i).size : Int), s7, s8, s9, s10, s11, s12, s13, s14, s15, s16, s17, s18, s19, s20, s21, s22, s23, s24, s25, s26, s27, s28, s29, s30, s31, s32, s33, s34, s35, s36, s37, s38, s39, s40, s41, s42, s43, s44, s45, s46, s47, s48, s49, s50, s51, s52, s53, s54, s55, s56, s57, s58, s59, s60, s61, s62, s63, s64, s65, s66, s67, s68, s69, s70, s71, s72, s73, s74, s75, s76, s77, s78, s79, s80, s81, s82, s83, s84, s85, s86, s87, s88, s89, s90, s91, s92, s93, s94, s95, s96, s97, s98, s99, s100, s101, s102, s103, s104, s105, s106, s107, s108, s109, s110, s111, s112, s113, s114, s115, s116, s117, s118, s119, s120, s121, s122, s123, s124, s125, s126], []⟩ W := by
 have q1 : decide (0 ≤ i) = true := decide_eq_true h0
 have q2 : decide (i < (W9.length : Int)) = true := decide_eq_true (by rw [W9_length]; exact h9)
 by_cases c1 : (rdOf ByteArray.empty W9 i).size < t.size
 case neg =>
  have d1 : decide (((rdOf ByteArray.empty W9 i).size : Int) < (t.size : Int)) = false := decide_eq_false (by omega)
  have d2 : decide ((rdOf ByteArray.empty W9 i).size < t.size) = false := decide_eq_false c1
  have hh : hit t (rdOf ByteArray.empty W9 i) = false := by unfold hit; rw [d2]; rfl
  rw [hh] at hQ
  clear hh c1
  have HPn := Aside0.mk hp
  clear hp
  have HQ := Aside0.mk hQ
  clear hQ
  have HB := Aside0.mk (below_drew1 (Below.refl W.heap.size W))
  simp only [Tryz.f9, opsOf, opsIn, Option.bind_some, Option.getD_some, Nat.reduceBEq, Bool.false_eq_true, if_false, if_true, beq_self_eq_true]
  refine start_ (n := 20) (S := fun w' => True) (ds := []) #[false, false, false, false, false, false, false, false, false, false, false, false, false, false, false, false, false, false, false, false] (by kernel_rfl) rfl rfl trivial (fun hHeld => ?_); refine with_tabW tab6 bits6 (fun HT_ HW_ => ?_)
  generalize W.drew = w1 at HB hHeld ⊢
  refine pure_ (i := 0) (N := some 25) (v := ?_) (a' := ?_) #[true, false, false, false, false, false, false, false, false, false, false, false, false, false, false, false, false, false, false, false] rfl rfl (any_of HT_.out (by kernel_rfl)) (fun c_ a_ w_ h_ => HPn.out _ _ c_ a_ w_ h_) (Or.inl ⟨by rfl, ?_⟩) ?_ ?_
  rotate_left
  ·intro w'
   go_simp
   with_reducible rfl
  rotate_left
  ·simp only [Act.put, List.setIfInBounds_toArray, List.set_cons_zero, List.set_cons_succ, i64_w, i32_w]
   rfl
  refine pure_ (i := 1) (N := some 26) (v := ?_) (a' := ?_) #[true, true, false, false, false, false, false, false, false, false, false, false, false, false, false, false, false, false, false, false] rfl rfl (any_of HT_.out (by kernel_rfl)) (fun c_ a_ w_ h_ => HPn.out _ _ c_ a_ w_ h_) (Or.inl ⟨by rfl, ?_⟩) ?_ ?_
  rotate_left
  ·intro w'
   go_simp
   with_reducible rfl
  rotate_left
  ·simp only [Act.put, List.setIfInBounds_toArray, List.set_cons_zero, List.set_cons_succ, i64_w, i32_w]
   rfl
  refine pure_ (i := 2) (N := some 27) (v := ?_) (a' := ?_) #[true, true, true, false, false, false, false, false, false, false, false, false, false, false, false, false, false, false, false, false] rfl rfl (any_of HT_.out (by kernel_rfl)) (fun c_ a_ w_ h_ => HPn.out _ _ c_ a_ w_ h_) (Or.inl ⟨by rfl, ?_⟩) ?_ ?_
  rotate_left
  ·intro w'
   go_simp
   with_reducible rfl
  rotate_left
  ·simp only [Act.put, List.setIfInBounds_toArray, List.set_cons_zero, List.set_cons_succ, i64_w, i32_w]
   rfl
  refine pure_ (i := 3) (N := some 28) (v := ?_) (a' := ?_) #[true, true, true, true, false, false, false, false, false, false, false, false, false, false, false, false, false, false, false, false] rfl rfl (any_of HT_.out (by kernel_rfl)) (fun c_ a_ w_ h_ => HPn.out _ _ c_ a_ w_ h_) (Or.inl ⟨by rfl, ?_⟩) ?_ ?_
  rotate_left
  ·intro w'
   go_simp
   with_reducible rfl
  rotate_left
  ·simp only [Act.put, List.setIfInBounds_toArray, List.set_cons_zero, List.set_cons_succ, i64_w, i32_w]
   rfl
  refine pure_ (i := 4) (N := some 29) (v := ?_) (a' := ?_) #[true, true, true, true, true, false, false, false, false, false, false, false, false, false, false, false, false, false, false, false] rfl rfl (any_of HT_.out (by kernel_rfl)) (fun c_ a_ w_ h_ => HPn.out _ _ c_ a_ w_ h_) (Or.inl ⟨by rfl, ?_⟩) ?_ ?_
  rotate_left
  ·intro w'
   go_simp
   with_reducible rfl
  rotate_left
  ·simp only [Act.put, List.setIfInBounds_toArray, List.set_cons_zero, List.set_cons_succ, i64_w, i32_w]
   rfl
  refine pure_ (i := 5) (N := some 30) (v := undef) (a' := ?_) #[true, true, true, true, true, true, false, false, false, false, false, false, false, false, false, false, false, false, false, false] rfl rfl (any_of HT_.out (by kernel_rfl)) (fun c_ a_ w_ h_ => HPn.out _ _ c_ a_ w_ h_) (Or.inr ⟨by rfl, rfl⟩) ?_ ?_
  rotate_left
  ·simp only [Act.put, List.setIfInBounds_toArray, List.set_cons_zero, List.set_cons_succ, i64_w, i32_w]
   rfl
  refine pure_ (i := 6) (N := some 31) (v := undef) (a' := ?_) #[true, true, true, true, true, true, true, false, false, false, false, false, false, false, false, false, false, false, false, false] rfl rfl (any_of HT_.out (by kernel_rfl)) (fun c_ a_ w_ h_ => HPn.out _ _ c_ a_ w_ h_) (Or.inr ⟨by rfl, rfl⟩) ?_ ?_
  rotate_left
  ·simp only [Act.put, List.setIfInBounds_toArray, List.set_cons_zero, List.set_cons_succ, i64_w, i32_w]
   rfl
  refine pure_ (i := 7) (N := some 32) (v := undef) (a' := ?_) #[true, true, true, true, true, true, true, true, false, false, false, false, false, false, false, false, false, false, false, false] rfl rfl (any_of HT_.out (by kernel_rfl)) (fun c_ a_ w_ h_ => HPn.out _ _ c_ a_ w_ h_) (Or.inr ⟨by rfl, rfl⟩) ?_ ?_
  rotate_left
  ·simp only [Act.put, List.setIfInBounds_toArray, List.set_cons_zero, List.set_cons_succ, i64_w, i32_w]
   rfl
  refine pure_ (i := 8) (N := some 33) (v := undef) (a' := ?_) #[true, true, true, true, true, true, true, true, true, false, false, false, false, false, false, false, false, false, false, false] rfl rfl (any_of HT_.out (by kernel_rfl)) (fun c_ a_ w_ h_ => HPn.out _ _ c_ a_ w_ h_) (Or.inr ⟨by rfl, rfl⟩) ?_ ?_
  rotate_left
  ·simp only [Act.put, List.setIfInBounds_toArray, List.set_cons_zero, List.set_cons_succ, i64_w, i32_w]
   rfl
  refine pure_ (i := 9) (N := some 34) (v := undef) (a' := ?_) #[true, true, true, true, true, true, true, true, true, true, false, false, false, false, false, false, false, false, false, false] rfl rfl (any_of HT_.out (by kernel_rfl)) (fun c_ a_ w_ h_ => HPn.out _ _ c_ a_ w_ h_) (Or.inr ⟨by rfl, rfl⟩) ?_ ?_
  rotate_left
  ·simp only [Act.put, List.setIfInBounds_toArray, List.set_cons_zero, List.set_cons_succ, i64_w, i32_w]
   rfl
  refine pure_ (i := 10) (N := some 35) (v := undef) (a' := ?_) #[true, true, true, true, true, true, true, true, true, true, true, false, false, false, false, false, false, false, false, false] rfl rfl (any_of HT_.out (by kernel_rfl)) (fun c_ a_ w_ h_ => HPn.out _ _ c_ a_ w_ h_) (Or.inr ⟨by rfl, rfl⟩) ?_ ?_
  rotate_left
  ·simp only [Act.put, List.setIfInBounds_toArray, List.set_cons_zero, List.set_cons_succ, i64_w, i32_w]
   rfl
  refine pure_ (i := 11) (N := some 36) (v := undef) (a' := ?_) #[true, true, true, true, true, true, true, true, true, true, true, true, false, false, false, false, false, false, false, false] rfl rfl (any_of HT_.out (by kernel_rfl)) (fun c_ a_ w_ h_ => HPn.out _ _ c_ a_ w_ h_) (Or.inr ⟨by rfl, rfl⟩) ?_ ?_
  rotate_left
  ·simp only [Act.put, List.setIfInBounds_toArray, List.set_cons_zero, List.set_cons_succ, i64_w, i32_w]
   rfl
  refine pure_ (i := 12) (N := some 37) (v := undef) (a' := ?_) #[true, true, true, true, true, true, true, true, true, true, true, true, true, false, false, false, false, false, false, false] rfl rfl (any_of HT_.out (by kernel_rfl)) (fun c_ a_ w_ h_ => HPn.out _ _ c_ a_ w_ h_) (Or.inr ⟨by rfl, rfl⟩) ?_ ?_
  rotate_left
  ·simp only [Act.put, List.setIfInBounds_toArray, List.set_cons_zero, List.set_cons_succ, i64_w, i32_w]
   rfl
  refine pure_ (i := 13) (N := some 38) (v := ?_) (a' := ?_) #[true, true, true, true, true, true, true, true, true, true, true, true, true, true, false, false, false, false, false, false] rfl rfl (any_of HT_.out (by kernel_rfl)) (fun c_ a_ w_ h_ => HPn.out _ _ c_ a_ w_ h_) (Or.inl ⟨by rfl, ?_⟩) ?_ ?_
  rotate_left
  ·intro w'
   go_simp
   with_reducible rfl
  rotate_left
  ·simp only [Act.put, List.setIfInBounds_toArray, List.set_cons_zero, List.set_cons_succ, i64_w, i32_w]
   rfl
  refine pure_ (i := 14) (N := some 39) (v := ?_) (a' := ?_) #[true, true, true, true, true, true, true, true, true, true, true, true, true, true, true, false, false, false, false, false] rfl rfl (any_of HT_.out (by kernel_rfl)) (fun c_ a_ w_ h_ => HPn.out _ _ c_ a_ w_ h_) (Or.inl ⟨by rfl, ?_⟩) ?_ ?_
  rotate_left
  ·intro w'
   go_simp
   with_reducible rfl
  rotate_left
  ·simp only [Act.put, List.setIfInBounds_toArray, List.set_cons_zero, List.set_cons_succ, i64_w, i32_w]
   rfl
  refine pure_ (i := 15) (N := some 40) (v := undef) (a' := ?_) #[true, true, true, true, true, true, true, true, true, true, true, true, true, true, true, true, false, false, false, false] rfl rfl (any_of HT_.out (by kernel_rfl)) (fun c_ a_ w_ h_ => HPn.out _ _ c_ a_ w_ h_) (Or.inr ⟨by rfl, rfl⟩) ?_ ?_
  rotate_left
  ·simp only [Act.put, List.setIfInBounds_toArray, List.set_cons_zero, List.set_cons_succ, i64_w, i32_w]
   rfl
  refine pure_ (i := 16) (N := some 41) (v := undef) (a' := ?_) #[true, true, true, true, true, true, true, true, true, true, true, true, true, true, true, true, true, false, false, false] rfl rfl (any_of HT_.out (by kernel_rfl)) (fun c_ a_ w_ h_ => HPn.out _ _ c_ a_ w_ h_) (Or.inr ⟨by rfl, rfl⟩) ?_ ?_
  rotate_left
  ·simp only [Act.put, List.setIfInBounds_toArray, List.set_cons_zero, List.set_cons_succ, i64_w, i32_w]
   rfl
  refine pure_ (i := 17) (N := some 42) (v := undef) (a' := ?_) #[true, true, true, true, true, true, true, true, true, true, true, true, true, true, true, true, true, true, false, false] rfl rfl (any_of HT_.out (by kernel_rfl)) (fun c_ a_ w_ h_ => HPn.out _ _ c_ a_ w_ h_) (Or.inr ⟨by rfl, rfl⟩) ?_ ?_
  rotate_left
  ·simp only [Act.put, List.setIfInBounds_toArray, List.set_cons_zero, List.set_cons_succ, i64_w, i32_w]
   rfl
  refine pure_ (i := 18) (N := some 43) (v := undef) (a' := ?_) #[true, true, true, true, true, true, true, true, true, true, true, true, true, true, true, true, true, true, true, false] rfl rfl (any_of HT_.out (by kernel_rfl)) (fun c_ a_ w_ h_ => HPn.out _ _ c_ a_ w_ h_) (Or.inr ⟨by rfl, rfl⟩) ?_ ?_
  rotate_left
  ·simp only [Act.put, List.setIfInBounds_toArray, List.set_cons_zero, List.set_cons_succ, i64_w, i32_w]
   rfl
  refine pure_ (i := 19) (N := some 44) (v := ?_) (a' := ?_) #[true, true, true, true, true, true, true, true, true, true, true, true, true, true, true, true, true, true, true, true] rfl rfl (any_of HT_.out (by kernel_rfl)) (fun c_ a_ w_ h_ => HPn.out _ _ c_ a_ w_ h_) (Or.inl ⟨by rfl, ?_⟩) ?_ ?_
  rotate_left
  ·intro w'
   go_simp
   with_reducible rfl
  rotate_left
  ·simp only [Act.put, List.setIfInBounds_toArray, List.set_cons_zero, List.set_cons_succ, i64_w, i32_w]
   rfl
  refine done_ (done_of HT_.out (by kernel_rfl)) ?_
  exact HQ.out _ _ _ _ _ _ _ _ _ _ _ _ _ _ _ _ _ _ _ _ (by repeat (first | exact HB.out | apply pw_below_drewN | apply below_drew1))
 have d1 : decide (((rdOf ByteArray.empty W9 i).size : Int) < (t.size : Int)) = true := decide_eq_true (by omega)
 have d2 : decide ((rdOf ByteArray.empty W9 i).size < t.size) = true := decide_eq_true c1
 have d3 : (0 ≤ ((rdOf ByteArray.empty W9 i).size : Int)) = True := eq_true (by omega)
 have d4 : decide (0 ≤ ((rdOf ByteArray.empty W9 i).size : Int)) = true := decide_eq_true (by omega)
 have d5 : (((rdOf ByteArray.empty W9 i).size : Int) ≤ (t.size : Int)) = True := eq_true (by omega)
 have d6 : decide (((rdOf ByteArray.empty W9 i).size : Int) ≤ (t.size : Int)) = true := decide_eq_true (by omega)
 have d7 : (((rdOf ByteArray.empty W9 i).size : Int) < (t.size : Int)) = True := eq_true (by omega)
 cases e1 : ((t.extract 0 (rdOf ByteArray.empty W9 i).size).toList == (rdOf ByteArray.empty W9 i).toList)
 case false =>
  have e2 : ((t.extract 0 (rdOf ByteArray.empty W9 i).size).toList != (rdOf ByteArray.empty W9 i).toList) = true := by rw [bne, e1]; rfl
  have hh : hit t (rdOf ByteArray.empty W9 i) = false := by unfold hit; rw [d2, e1]; rfl
  rw [hh] at hQ
  clear hh c1
  have HPn := Aside0.mk hp
  clear hp
  have HQ := Aside0.mk hQ
  clear hQ
  have HB := Aside0.mk (below_drew1 (Below.refl W.heap.size W))
  simp only [Tryz.f9, opsOf, opsIn, Option.bind_some, Option.getD_some, Nat.reduceBEq, Bool.false_eq_true, if_false, if_true, beq_self_eq_true]
  refine start_ (n := 20) (S := fun w' => True) (ds := []) #[false, false, false, false, false, false, false, false, false, false, false, false, false, false, false, false, false, false, false, false] (by kernel_rfl) rfl rfl trivial (fun hHeld => ?_); refine with_tabW tab6 bits6 (fun HT_ HW_ => ?_)
  generalize W.drew = w1 at HB hHeld ⊢
  refine pure_ (i := 0) (N := some 25) (v := ?_) (a' := ?_) #[true, false, false, false, false, false, false, false, false, false, false, false, false, false, false, false, false, false, false, false] rfl rfl (any_of HT_.out (by kernel_rfl)) (fun c_ a_ w_ h_ => HPn.out _ _ c_ a_ w_ h_) (Or.inl ⟨by rfl, ?_⟩) ?_ ?_
  rotate_left
  ·intro w'
   go_simp
   with_reducible rfl
  rotate_left
  ·simp only [Act.put, List.setIfInBounds_toArray, List.set_cons_zero, List.set_cons_succ, i64_w, i32_w]
   rfl
  refine pure_ (i := 1) (N := some 26) (v := ?_) (a' := ?_) #[true, true, false, false, false, false, false, false, false, false, false, false, false, false, false, false, false, false, false, false] rfl rfl (any_of HT_.out (by kernel_rfl)) (fun c_ a_ w_ h_ => HPn.out _ _ c_ a_ w_ h_) (Or.inl ⟨by rfl, ?_⟩) ?_ ?_
  rotate_left
  ·intro w'
   go_simp
   with_reducible rfl
  rotate_left
  ·simp only [Act.put, List.setIfInBounds_toArray, List.set_cons_zero, List.set_cons_succ, i64_w, i32_w]
   rfl
  refine pure_ (i := 2) (N := some 27) (v := ?_) (a' := ?_) #[true, true, true, false, false, false, false, false, false, false, false, false, false, false, false, false, false, false, false, false] rfl rfl (any_of HT_.out (by kernel_rfl)) (fun c_ a_ w_ h_ => HPn.out _ _ c_ a_ w_ h_) (Or.inl ⟨by rfl, ?_⟩) ?_ ?_
  rotate_left
  ·intro w'
   go_simp
   with_reducible rfl
  rotate_left
  ·simp only [Act.put, List.setIfInBounds_toArray, List.set_cons_zero, List.set_cons_succ, i64_w, i32_w]
   rfl
  refine pure_ (i := 3) (N := some 28) (v := ?_) (a' := ?_) #[true, true, true, true, false, false, false, false, false, false, false, false, false, false, false, false, false, false, false, false] rfl rfl (any_of HT_.out (by kernel_rfl)) (fun c_ a_ w_ h_ => HPn.out _ _ c_ a_ w_ h_) (Or.inl ⟨by rfl, ?_⟩) ?_ ?_
  rotate_left
  ·intro w'
   go_simp
   with_reducible rfl
  rotate_left
  ·simp only [Act.put, List.setIfInBounds_toArray, List.set_cons_zero, List.set_cons_succ, i64_w, i32_w]
   rfl
  refine pure_ (i := 4) (N := some 29) (v := ?_) (a' := ?_) #[true, true, true, true, true, false, false, false, false, false, false, false, false, false, false, false, false, false, false, false] rfl rfl (any_of HT_.out (by kernel_rfl)) (fun c_ a_ w_ h_ => HPn.out _ _ c_ a_ w_ h_) (Or.inl ⟨by rfl, ?_⟩) ?_ ?_
  rotate_left
  ·intro w'
   go_simp
   with_reducible rfl
  rotate_left
  ·simp only [Act.put, List.setIfInBounds_toArray, List.set_cons_zero, List.set_cons_succ, i64_w, i32_w]
   rfl
  refine pure_ (i := 5) (N := some 30) (v := ?_) (a' := ?_) #[true, true, true, true, true, true, false, false, false, false, false, false, false, false, false, false, false, false, false, false] rfl rfl (any_of HT_.out (by kernel_rfl)) (fun c_ a_ w_ h_ => HPn.out _ _ c_ a_ w_ h_) (Or.inl ⟨by rfl, ?_⟩) ?_ ?_
  rotate_left
  ·intro w'
   go_simp
   with_reducible rfl
  rotate_left
  ·simp only [Act.put, List.setIfInBounds_toArray, List.set_cons_zero, List.set_cons_succ, i64_w, i32_w]
   rfl
  refine pure_ (i := 6) (N := some 31) (v := ?_) (a' := ?_) #[true, true, true, true, true, true, true, false, false, false, false, false, false, false, false, false, false, false, false, false] rfl rfl (any_of HT_.out (by kernel_rfl)) (fun c_ a_ w_ h_ => HPn.out _ _ c_ a_ w_ h_) (Or.inl ⟨by rfl, ?_⟩) ?_ ?_
  rotate_left
  ·intro w'
   go_simp
   with_reducible rfl
  rotate_left
  ·simp only [Act.put, List.setIfInBounds_toArray, List.set_cons_zero, List.set_cons_succ, i64_w, i32_w]
   rfl
  refine pure_ (i := 7) (N := some 32) (v := ?_) (a' := ?_) #[true, true, true, true, true, true, true, true, false, false, false, false, false, false, false, false, false, false, false, false] rfl rfl (any_of HT_.out (by kernel_rfl)) (fun c_ a_ w_ h_ => HPn.out _ _ c_ a_ w_ h_) (Or.inl ⟨by rfl, ?_⟩) ?_ ?_
  rotate_left
  ·intro w'
   go_simp
   with_reducible rfl
  rotate_left
  ·simp only [Act.put, List.setIfInBounds_toArray, List.set_cons_zero, List.set_cons_succ, i64_w, i32_w]
   rfl
  refine pure_ (i := 9) (N := some 34) (v := ?_) (a' := ?_) #[true, true, true, true, true, true, true, true, false, true, false, false, false, false, false, false, false, false, false, false] rfl rfl (any_of HT_.out (by kernel_rfl)) (fun c_ a_ w_ h_ => HPn.out _ _ c_ a_ w_ h_) (Or.inl ⟨by rfl, ?_⟩) ?_ ?_
  rotate_left
  ·intro w'
   go_simp
   with_reducible rfl
  rotate_left
  ·simp only [Act.put, List.setIfInBounds_toArray, List.set_cons_zero, List.set_cons_succ, i64_w, i32_w]
   rfl
  refine one_ (i := 8) (N := some 33) #[true, true, true, true, true, true, true, true, true, true, false, false, false, false, false, false, false, false, false, false] rfl rfl (one_of HT_.out (by kernel_rfl)) (by decide) (fun Kk hK => ?_)
  refine goes_ Tryz.func15 (by kernel_rfl) rfl #[] (by rfl) rfl rfl (by (try simp only [List.map_toArray, List.map_cons, List.map_nil]); first | done | rfl | (simp only [List.length_drop, List.length_take]; rfl)) ?_
  with_reducible refine (spec_l12Calls.calls W9 _ W9_is).mono ?_
  rintro e w25 ⟨v176, rfl, ho0, hb⟩
  refine ⟨_, rfl, ?_⟩
  have n2_ := Aside0.mk ho0
  have n5_ := Aside0.mk (below_step (by exact Sq.bl HB.out) hb)
  clear HB
  have HO177 := n2_
  have HB := n5_
  clear n2_ n5_ hb ho0
  obtain ⟨Ao26, co26, eo26⟩ := Kd.R_slice HO177.out
  (first | subst eo26 | (injection eo26 with f1_ f2_ f3_; have f4_ := f1_.symm; have f5_ := f3_.symm; clear f1_ f2_ f3_; subst f4_; subst f5_))
  have p178 : 0 ≤ (i : Int) := h0
  have q178 : i < (W9.length : Int) := by rw [W9_length]; exact h9
  obtain ⟨ad178, e178, hx178_0⟩ := Kd.at_string (Kd.R_reads' HO177.out).2.2 i p178 q178
  cases e178
  replace p178 := eq_true p178
  replace q178 := eq_true q178
  refine hK.out _ _ trivial (fun hHeld => ?_)
  clear hK Kk
  refine norm_ (a' := ?_) ?_ ?_
  rotate_left
  ·show Act.put _ (some 33) _ = _
   simp only [Act.put, List.setIfInBounds_toArray, List.set_cons_zero, List.set_cons_succ, i64_w, i32_w]
   rfl
  refine wpAnyLast_more (S' := fun w' => w'.cell? (ad178.add (i).toNat) = some (.string (rdOf ByteArray.empty W9 i))) (fun w' h_ => trivial) hx178_0 ?_
  clear hHeld
  have hHeld := hx178_0
  refine pure_ (i := 10) (N := some 35) (v := ?_) (a' := ?_) #[true, true, true, true, true, true, true, true, true, true, true, false, false, false, false, false, false, false, false, false] rfl rfl (any_of HT_.out (by kernel_rfl)) (fun c_ a_ w_ h_ => HPn.out _ _ c_ a_ w_ h_) (Or.inl ⟨by rfl, ?_⟩) ?_ ?_
  rotate_left
  ·intro w'
   go_simp
   with_reducible rfl
  rotate_left
  ·simp only [Act.put, List.setIfInBounds_toArray, List.set_cons_zero, List.set_cons_succ, i64_w, i32_w]
   rfl
  refine take_ (i := 11) (N := some 36) (v := ?_) (a' := ?_) #[true, true, true, true, true, true, true, true, true, true, true, true, false, false, false, false, false, false, false, false] rfl rfl (take_ofW HT_.out HW_.out (by kernel_rfl)) (fun c_ a_ w_ h_ => HPn.out _ _ c_ a_ w_ h_) (Or.inl ⟨by rfl, ?_⟩) hHeld ?_ ?_
  rotate_left
  ·rintro w' s0
   go_simp
   with_reducible rfl
  rotate_left
  ·simp only [Act.put, List.setIfInBounds_toArray, List.set_cons_zero, List.set_cons_succ, i64_w, i32_w]
   rfl
  refine pure_ (i := 12) (N := some 37) (v := ?_) (a' := ?_) #[true, true, true, true, true, true, true, true, true, true, true, true, true, false, false, false, false, false, false, false] rfl rfl (any_of HT_.out (by kernel_rfl)) (fun c_ a_ w_ h_ => HPn.out _ _ c_ a_ w_ h_) (Or.inl ⟨by rfl, ?_⟩) ?_ ?_
  rotate_left
  ·intro w'
   go_simp
   with_reducible rfl
  rotate_left
  ·simp only [Act.put, List.setIfInBounds_toArray, List.set_cons_zero, List.set_cons_succ, i64_w, i32_w]
   rfl
  refine pure_ (i := 13) (N := some 38) (v := ?_) (a' := ?_) #[true, true, true, true, true, true, true, true, true, true, true, true, true, true, false, false, false, false, false, false] rfl rfl (any_of HT_.out (by kernel_rfl)) (fun c_ a_ w_ h_ => HPn.out _ _ c_ a_ w_ h_) (Or.inl ⟨by rfl, ?_⟩) ?_ ?_
  rotate_left
  ·intro w'
   go_simp
   with_reducible rfl
  rotate_left
  ·simp only [Act.put, List.setIfInBounds_toArray, List.set_cons_zero, List.set_cons_succ, i64_w, i32_w]
   rfl
  refine pure_ (i := 14) (N := some 39) (v := ?_) (a' := ?_) #[true, true, true, true, true, true, true, true, true, true, true, true, true, true, true, false, false, false, false, false] rfl rfl (any_of HT_.out (by kernel_rfl)) (fun c_ a_ w_ h_ => HPn.out _ _ c_ a_ w_ h_) (Or.inl ⟨by rfl, ?_⟩) ?_ ?_
  rotate_left
  ·intro w'
   go_simp
   with_reducible rfl
  rotate_left
  ·simp only [Act.put, List.setIfInBounds_toArray, List.set_cons_zero, List.set_cons_succ, i64_w, i32_w]
   rfl
  refine pure_ (i := 15) (N := some 40) (v := undef) (a' := ?_) #[true, true, true, true, true, true, true, true, true, true, true, true, true, true, true, true, false, false, false, false] rfl rfl (any_of HT_.out (by kernel_rfl)) (fun c_ a_ w_ h_ => HPn.out _ _ c_ a_ w_ h_) (Or.inr ⟨by rfl, rfl⟩) ?_ ?_
  rotate_left
  ·simp only [Act.put, List.setIfInBounds_toArray, List.set_cons_zero, List.set_cons_succ, i64_w, i32_w]
   rfl
  refine pure_ (i := 16) (N := some 41) (v := undef) (a' := ?_) #[true, true, true, true, true, true, true, true, true, true, true, true, true, true, true, true, true, false, false, false] rfl rfl (any_of HT_.out (by kernel_rfl)) (fun c_ a_ w_ h_ => HPn.out _ _ c_ a_ w_ h_) (Or.inr ⟨by rfl, rfl⟩) ?_ ?_
  rotate_left
  ·simp only [Act.put, List.setIfInBounds_toArray, List.set_cons_zero, List.set_cons_succ, i64_w, i32_w]
   rfl
  refine pure_ (i := 17) (N := some 42) (v := undef) (a' := ?_) #[true, true, true, true, true, true, true, true, true, true, true, true, true, true, true, true, true, true, false, false] rfl rfl (any_of HT_.out (by kernel_rfl)) (fun c_ a_ w_ h_ => HPn.out _ _ c_ a_ w_ h_) (Or.inr ⟨by rfl, rfl⟩) ?_ ?_
  rotate_left
  ·simp only [Act.put, List.setIfInBounds_toArray, List.set_cons_zero, List.set_cons_succ, i64_w, i32_w]
   rfl
  refine pure_ (i := 18) (N := some 43) (v := undef) (a' := ?_) #[true, true, true, true, true, true, true, true, true, true, true, true, true, true, true, true, true, true, true, false] rfl rfl (any_of HT_.out (by kernel_rfl)) (fun c_ a_ w_ h_ => HPn.out _ _ c_ a_ w_ h_) (Or.inr ⟨by rfl, rfl⟩) ?_ ?_
  rotate_left
  ·simp only [Act.put, List.setIfInBounds_toArray, List.set_cons_zero, List.set_cons_succ, i64_w, i32_w]
   rfl
  refine pure_ (i := 19) (N := some 44) (v := ?_) (a' := ?_) #[true, true, true, true, true, true, true, true, true, true, true, true, true, true, true, true, true, true, true, true] rfl rfl (any_of HT_.out (by kernel_rfl)) (fun c_ a_ w_ h_ => HPn.out _ _ c_ a_ w_ h_) (Or.inl ⟨by rfl, ?_⟩) ?_ ?_
  rotate_left
  ·intro w'
   go_simp
   with_reducible rfl
  rotate_left
  ·simp only [Act.put, List.setIfInBounds_toArray, List.set_cons_zero, List.set_cons_succ, i64_w, i32_w]
   rfl
  refine done_ (done_of HT_.out (by kernel_rfl)) ?_
  exact HQ.out _ _ _ _ _ _ _ _ _ _ _ _ _ _ _ _ _ _ _ _ (by repeat (first | exact HB.out | apply pw_below_drewN | apply below_drew1))
 have e2 : ((t.extract 0 (rdOf ByteArray.empty W9 i).size).toList != (rdOf ByteArray.empty W9 i).toList) = false := by rw [bne, e1]; rfl
 have hx20 : ((t[(rdOf ByteArray.empty W9 i).size]'c1).toNat : Int) = bt t ((rdOf ByteArray.empty W9 i).size : Int) := (bt_nat' t _ c1).symm
 cases e3 : (bt t ((rdOf ByteArray.empty W9 i).size : Int) == 32)
 case false =>
  have e4 : (bt t ((rdOf ByteArray.empty W9 i).size : Int) != 32) = true := by rw [bne, e3]; rfl
  have hh : hit t (rdOf ByteArray.empty W9 i) = false := by unfold hit; rw [d2, e3, e1]; rfl
  rw [hh] at hQ
  clear hh
  have HPn := Aside0.mk hp
  clear hp
  have HQ := Aside0.mk hQ
  clear hQ
  have HB := Aside0.mk (below_drew1 (Below.refl W.heap.size W))
  simp only [Tryz.f9, opsOf, opsIn, Option.bind_some, Option.getD_some, Nat.reduceBEq, Bool.false_eq_true, if_false, if_true, beq_self_eq_true]
  refine start_ (n := 20) (S := fun w' => True) (ds := []) #[false, false, false, false, false, false, false, false, false, false, false, false, false, false, false, false, false, false, false, false] (by kernel_rfl) rfl rfl trivial (fun hHeld => ?_); refine with_tabW tab6 bits6 (fun HT_ HW_ => ?_)
  generalize W.drew = w1 at HB hHeld ⊢
  refine pure_ (i := 0) (N := some 25) (v := ?_) (a' := ?_) #[true, false, false, false, false, false, false, false, false, false, false, false, false, false, false, false, false, false, false, false] rfl rfl (any_of HT_.out (by kernel_rfl)) (fun c_ a_ w_ h_ => HPn.out _ _ c_ a_ w_ h_) (Or.inl ⟨by rfl, ?_⟩) ?_ ?_
  rotate_left
  ·intro w'
   go_simp
   with_reducible rfl
  rotate_left
  ·simp only [Act.put, List.setIfInBounds_toArray, List.set_cons_zero, List.set_cons_succ, i64_w, i32_w]
   rfl
  refine pure_ (i := 1) (N := some 26) (v := ?_) (a' := ?_) #[true, true, false, false, false, false, false, false, false, false, false, false, false, false, false, false, false, false, false, false] rfl rfl (any_of HT_.out (by kernel_rfl)) (fun c_ a_ w_ h_ => HPn.out _ _ c_ a_ w_ h_) (Or.inl ⟨by rfl, ?_⟩) ?_ ?_
  rotate_left
  ·intro w'
   go_simp
   with_reducible rfl
  rotate_left
  ·simp only [Act.put, List.setIfInBounds_toArray, List.set_cons_zero, List.set_cons_succ, i64_w, i32_w]
   rfl
  refine pure_ (i := 2) (N := some 27) (v := ?_) (a' := ?_) #[true, true, true, false, false, false, false, false, false, false, false, false, false, false, false, false, false, false, false, false] rfl rfl (any_of HT_.out (by kernel_rfl)) (fun c_ a_ w_ h_ => HPn.out _ _ c_ a_ w_ h_) (Or.inl ⟨by rfl, ?_⟩) ?_ ?_
  rotate_left
  ·intro w'
   go_simp
   with_reducible rfl
  rotate_left
  ·simp only [Act.put, List.setIfInBounds_toArray, List.set_cons_zero, List.set_cons_succ, i64_w, i32_w]
   rfl
  refine pure_ (i := 3) (N := some 28) (v := ?_) (a' := ?_) #[true, true, true, true, false, false, false, false, false, false, false, false, false, false, false, false, false, false, false, false] rfl rfl (any_of HT_.out (by kernel_rfl)) (fun c_ a_ w_ h_ => HPn.out _ _ c_ a_ w_ h_) (Or.inl ⟨by rfl, ?_⟩) ?_ ?_
  rotate_left
  ·intro w'
   go_simp
   with_reducible rfl
  rotate_left
  ·simp only [Act.put, List.setIfInBounds_toArray, List.set_cons_zero, List.set_cons_succ, i64_w, i32_w]
   rfl
  refine pure_ (i := 4) (N := some 29) (v := ?_) (a' := ?_) #[true, true, true, true, true, false, false, false, false, false, false, false, false, false, false, false, false, false, false, false] rfl rfl (any_of HT_.out (by kernel_rfl)) (fun c_ a_ w_ h_ => HPn.out _ _ c_ a_ w_ h_) (Or.inl ⟨by rfl, ?_⟩) ?_ ?_
  rotate_left
  ·intro w'
   go_simp
   with_reducible rfl
  rotate_left
  ·simp only [Act.put, List.setIfInBounds_toArray, List.set_cons_zero, List.set_cons_succ, i64_w, i32_w]
   rfl
  refine pure_ (i := 5) (N := some 30) (v := ?_) (a' := ?_) #[true, true, true, true, true, true, false, false, false, false, false, false, false, false, false, false, false, false, false, false] rfl rfl (any_of HT_.out (by kernel_rfl)) (fun c_ a_ w_ h_ => HPn.out _ _ c_ a_ w_ h_) (Or.inl ⟨by rfl, ?_⟩) ?_ ?_
  rotate_left
  ·intro w'
   go_simp
   with_reducible rfl
  rotate_left
  ·simp only [Act.put, List.setIfInBounds_toArray, List.set_cons_zero, List.set_cons_succ, i64_w, i32_w]
   rfl
  refine pure_ (i := 6) (N := some 31) (v := ?_) (a' := ?_) #[true, true, true, true, true, true, true, false, false, false, false, false, false, false, false, false, false, false, false, false] rfl rfl (any_of HT_.out (by kernel_rfl)) (fun c_ a_ w_ h_ => HPn.out _ _ c_ a_ w_ h_) (Or.inl ⟨by rfl, ?_⟩) ?_ ?_
  rotate_left
  ·intro w'
   go_simp
   with_reducible rfl
  rotate_left
  ·simp only [Act.put, List.setIfInBounds_toArray, List.set_cons_zero, List.set_cons_succ, i64_w, i32_w]
   rfl
  refine pure_ (i := 7) (N := some 32) (v := ?_) (a' := ?_) #[true, true, true, true, true, true, true, true, false, false, false, false, false, false, false, false, false, false, false, false] rfl rfl (any_of HT_.out (by kernel_rfl)) (fun c_ a_ w_ h_ => HPn.out _ _ c_ a_ w_ h_) (Or.inl ⟨by rfl, ?_⟩) ?_ ?_
  rotate_left
  ·intro w'
   go_simp
   with_reducible rfl
  rotate_left
  ·simp only [Act.put, List.setIfInBounds_toArray, List.set_cons_zero, List.set_cons_succ, i64_w, i32_w]
   rfl
  refine pure_ (i := 9) (N := some 34) (v := ?_) (a' := ?_) #[true, true, true, true, true, true, true, true, false, true, false, false, false, false, false, false, false, false, false, false] rfl rfl (any_of HT_.out (by kernel_rfl)) (fun c_ a_ w_ h_ => HPn.out _ _ c_ a_ w_ h_) (Or.inl ⟨by rfl, ?_⟩) ?_ ?_
  rotate_left
  ·intro w'
   go_simp
   with_reducible rfl
  rotate_left
  ·simp only [Act.put, List.setIfInBounds_toArray, List.set_cons_zero, List.set_cons_succ, i64_w, i32_w]
   rfl
  refine one_ (i := 8) (N := some 33) #[true, true, true, true, true, true, true, true, true, true, false, false, false, false, false, false, false, false, false, false] rfl rfl (one_of HT_.out (by kernel_rfl)) (by decide) (fun Kk hK => ?_)
  refine goes_ Tryz.func15 (by kernel_rfl) rfl #[] (by rfl) rfl rfl (by (try simp only [List.map_toArray, List.map_cons, List.map_nil]); first | done | rfl | (simp only [List.length_drop, List.length_take]; rfl)) ?_
  with_reducible refine (spec_l12Calls.calls W9 _ W9_is).mono ?_
  rintro e w25 ⟨v176, rfl, ho0, hb⟩
  refine ⟨_, rfl, ?_⟩
  have n2_ := Aside0.mk ho0
  have n5_ := Aside0.mk (below_step (by exact Sq.bl HB.out) hb)
  clear HB
  have HO177 := n2_
  have HB := n5_
  clear n2_ n5_ hb ho0
  obtain ⟨Ao26, co26, eo26⟩ := Kd.R_slice HO177.out
  (first | subst eo26 | (injection eo26 with f1_ f2_ f3_; have f4_ := f1_.symm; have f5_ := f3_.symm; clear f1_ f2_ f3_; subst f4_; subst f5_))
  have p178 : 0 ≤ (i : Int) := h0
  have q178 : i < (W9.length : Int) := by rw [W9_length]; exact h9
  obtain ⟨ad178, e178, hx178_0⟩ := Kd.at_string (Kd.R_reads' HO177.out).2.2 i p178 q178
  cases e178
  replace p178 := eq_true p178
  replace q178 := eq_true q178
  refine hK.out _ _ trivial (fun hHeld => ?_)
  clear hK Kk
  refine norm_ (a' := ?_) ?_ ?_
  rotate_left
  ·show Act.put _ (some 33) _ = _
   simp only [Act.put, List.setIfInBounds_toArray, List.set_cons_zero, List.set_cons_succ, i64_w, i32_w]
   rfl
  refine wpAnyLast_more (S' := fun w' => w'.cell? (ad178.add (i).toNat) = some (.string (rdOf ByteArray.empty W9 i))) (fun w' h_ => trivial) hx178_0 ?_
  clear hHeld
  have hHeld := hx178_0
  refine pure_ (i := 10) (N := some 35) (v := ?_) (a' := ?_) #[true, true, true, true, true, true, true, true, true, true, true, false, false, false, false, false, false, false, false, false] rfl rfl (any_of HT_.out (by kernel_rfl)) (fun c_ a_ w_ h_ => HPn.out _ _ c_ a_ w_ h_) (Or.inl ⟨by rfl, ?_⟩) ?_ ?_
  rotate_left
  ·intro w'
   go_simp
   with_reducible rfl
  rotate_left
  ·simp only [Act.put, List.setIfInBounds_toArray, List.set_cons_zero, List.set_cons_succ, i64_w, i32_w]
   rfl
  refine take_ (i := 11) (N := some 36) (v := ?_) (a' := ?_) #[true, true, true, true, true, true, true, true, true, true, true, true, false, false, false, false, false, false, false, false] rfl rfl (take_ofW HT_.out HW_.out (by kernel_rfl)) (fun c_ a_ w_ h_ => HPn.out _ _ c_ a_ w_ h_) (Or.inl ⟨by rfl, ?_⟩) hHeld ?_ ?_
  rotate_left
  ·rintro w' s0
   go_simp
   with_reducible rfl
  rotate_left
  ·simp only [Act.put, List.setIfInBounds_toArray, List.set_cons_zero, List.set_cons_succ, i64_w, i32_w]
   rfl
  refine pure_ (i := 12) (N := some 37) (v := ?_) (a' := ?_) #[true, true, true, true, true, true, true, true, true, true, true, true, true, false, false, false, false, false, false, false] rfl rfl (any_of HT_.out (by kernel_rfl)) (fun c_ a_ w_ h_ => HPn.out _ _ c_ a_ w_ h_) (Or.inl ⟨by rfl, ?_⟩) ?_ ?_
  rotate_left
  ·intro w'
   go_simp
   with_reducible rfl
  rotate_left
  ·simp only [Act.put, List.setIfInBounds_toArray, List.set_cons_zero, List.set_cons_succ, i64_w, i32_w]
   rfl
  refine pure_ (i := 13) (N := some 38) (v := ?_) (a' := ?_) #[true, true, true, true, true, true, true, true, true, true, true, true, true, true, false, false, false, false, false, false] rfl rfl (any_of HT_.out (by kernel_rfl)) (fun c_ a_ w_ h_ => HPn.out _ _ c_ a_ w_ h_) (Or.inl ⟨by rfl, ?_⟩) ?_ ?_
  rotate_left
  ·intro w'
   go_simp
   with_reducible rfl
  rotate_left
  ·simp only [Act.put, List.setIfInBounds_toArray, List.set_cons_zero, List.set_cons_succ, i64_w, i32_w]
   rfl
  refine pure_ (i := 14) (N := some 39) (v := ?_) (a' := ?_) #[true, true, true, true, true, true, true, true, true, true, true, true, true, true, true, false, false, false, false, false] rfl rfl (any_of HT_.out (by kernel_rfl)) (fun c_ a_ w_ h_ => HPn.out _ _ c_ a_ w_ h_) (Or.inl ⟨by rfl, ?_⟩) ?_ ?_
  rotate_left
  ·intro w'
   go_simp
   with_reducible rfl
  rotate_left
  ·simp only [Act.put, List.setIfInBounds_toArray, List.set_cons_zero, List.set_cons_succ, i64_w, i32_w]
   rfl
  refine pure_ (i := 15) (N := some 40) (v := ?_) (a' := ?_) #[true, true, true, true, true, true, true, true, true, true, true, true, true, true, true, true, false, false, false, false] rfl rfl (any_of HT_.out (by kernel_rfl)) (fun c_ a_ w_ h_ => HPn.out _ _ c_ a_ w_ h_) (Or.inl ⟨by rfl, ?_⟩) ?_ ?_
  rotate_left
  ·intro w'
   go_simp
   with_reducible rfl
  rotate_left
  ·simp only [Act.put, List.setIfInBounds_toArray, List.set_cons_zero, List.set_cons_succ, i64_w, i32_w]
   rfl
  refine pure_ (i := 16) (N := some 41) (v := ?_) (a' := ?_) #[true, true, true, true, true, true, true, true, true, true, true, true, true, true, true, true, true, false, false, false] rfl rfl (any_of HT_.out (by kernel_rfl)) (fun c_ a_ w_ h_ => HPn.out _ _ c_ a_ w_ h_) (Or.inl ⟨by rfl, ?_⟩) ?_ ?_
  rotate_left
  ·intro w'
   go_simp
   with_reducible rfl
  rotate_left
  ·simp only [Act.put, List.setIfInBounds_toArray, List.set_cons_zero, List.set_cons_succ, i64_w, i32_w]
   rfl
  refine pure_ (i := 17) (N := some 42) (v := ?_) (a' := ?_) #[true, true, true, true, true, true, true, true, true, true, true, true, true, true, true, true, true, true, false, false] rfl rfl (any_of HT_.out (by kernel_rfl)) (fun c_ a_ w_ h_ => HPn.out _ _ c_ a_ w_ h_) (Or.inl ⟨by rfl, ?_⟩) ?_ ?_
  rotate_left
  ·intro w'
   go_simp
   with_reducible rfl
  rotate_left
  ·simp only [Act.put, List.setIfInBounds_toArray, List.set_cons_zero, List.set_cons_succ, i64_w, i32_w]
   rfl
  refine pure_ (i := 18) (N := some 43) (v := ?_) (a' := ?_) #[true, true, true, true, true, true, true, true, true, true, true, true, true, true, true, true, true, true, true, false] rfl rfl (any_of HT_.out (by kernel_rfl)) (fun c_ a_ w_ h_ => HPn.out _ _ c_ a_ w_ h_) (Or.inl ⟨by rfl, ?_⟩) ?_ ?_
  rotate_left
  ·intro w'
   go_simp
   with_reducible rfl
  rotate_left
  ·simp only [Act.put, List.setIfInBounds_toArray, List.set_cons_zero, List.set_cons_succ, i64_w, i32_w]
   rfl
  refine pure_ (i := 19) (N := some 44) (v := ?_) (a' := ?_) #[true, true, true, true, true, true, true, true, true, true, true, true, true, true, true, true, true, true, true, true] rfl rfl (any_of HT_.out (by kernel_rfl)) (fun c_ a_ w_ h_ => HPn.out _ _ c_ a_ w_ h_) (Or.inl ⟨by rfl, ?_⟩) ?_ ?_
  rotate_left
  ·intro w'
   go_simp
   with_reducible rfl
  rotate_left
  ·simp only [Act.put, List.setIfInBounds_toArray, List.set_cons_zero, List.set_cons_succ, i64_w, i32_w]
   rfl
  refine done_ (done_of HT_.out (by kernel_rfl)) ?_
  exact HQ.out _ _ _ _ _ _ _ _ _ _ _ _ _ _ _ _ _ _ _ _ (by repeat (first | exact HB.out | apply pw_below_drewN | apply below_drew1))
 case true =>
  have e4 : (bt t ((rdOf ByteArray.empty W9 i).size : Int) != 32) = false := by rw [bne, e3]; rfl
  have hh : hit t (rdOf ByteArray.empty W9 i) = true := by unfold hit; rw [d2, e3, e1]; rfl
  rw [hh] at hQ
  clear hh
  have HPn := Aside0.mk hp
  clear hp
  have HQ := Aside0.mk hQ
  clear hQ
  have HB := Aside0.mk (below_drew1 (Below.refl W.heap.size W))
  simp only [Tryz.f9, opsOf, opsIn, Option.bind_some, Option.getD_some, Nat.reduceBEq, Bool.false_eq_true, if_false, if_true, beq_self_eq_true]
  refine start_ (n := 20) (S := fun w' => True) (ds := []) #[false, false, false, false, false, false, false, false, false, false, false, false, false, false, false, false, false, false, false, false] (by kernel_rfl) rfl rfl trivial (fun hHeld => ?_); refine with_tabW tab6 bits6 (fun HT_ HW_ => ?_)
  generalize W.drew = w1 at HB hHeld ⊢
  refine pure_ (i := 0) (N := some 25) (v := ?_) (a' := ?_) #[true, false, false, false, false, false, false, false, false, false, false, false, false, false, false, false, false, false, false, false] rfl rfl (any_of HT_.out (by kernel_rfl)) (fun c_ a_ w_ h_ => HPn.out _ _ c_ a_ w_ h_) (Or.inl ⟨by rfl, ?_⟩) ?_ ?_
  rotate_left
  ·intro w'
   go_simp
   with_reducible rfl
  rotate_left
  ·simp only [Act.put, List.setIfInBounds_toArray, List.set_cons_zero, List.set_cons_succ, i64_w, i32_w]
   rfl
  refine pure_ (i := 1) (N := some 26) (v := ?_) (a' := ?_) #[true, true, false, false, false, false, false, false, false, false, false, false, false, false, false, false, false, false, false, false] rfl rfl (any_of HT_.out (by kernel_rfl)) (fun c_ a_ w_ h_ => HPn.out _ _ c_ a_ w_ h_) (Or.inl ⟨by rfl, ?_⟩) ?_ ?_
  rotate_left
  ·intro w'
   go_simp
   with_reducible rfl
  rotate_left
  ·simp only [Act.put, List.setIfInBounds_toArray, List.set_cons_zero, List.set_cons_succ, i64_w, i32_w]
   rfl
  refine pure_ (i := 2) (N := some 27) (v := ?_) (a' := ?_) #[true, true, true, false, false, false, false, false, false, false, false, false, false, false, false, false, false, false, false, false] rfl rfl (any_of HT_.out (by kernel_rfl)) (fun c_ a_ w_ h_ => HPn.out _ _ c_ a_ w_ h_) (Or.inl ⟨by rfl, ?_⟩) ?_ ?_
  rotate_left
  ·intro w'
   go_simp
   with_reducible rfl
  rotate_left
  ·simp only [Act.put, List.setIfInBounds_toArray, List.set_cons_zero, List.set_cons_succ, i64_w, i32_w]
   rfl
  refine pure_ (i := 3) (N := some 28) (v := ?_) (a' := ?_) #[true, true, true, true, false, false, false, false, false, false, false, false, false, false, false, false, false, false, false, false] rfl rfl (any_of HT_.out (by kernel_rfl)) (fun c_ a_ w_ h_ => HPn.out _ _ c_ a_ w_ h_) (Or.inl ⟨by rfl, ?_⟩) ?_ ?_
  rotate_left
  ·intro w'
   go_simp
   with_reducible rfl
  rotate_left
  ·simp only [Act.put, List.setIfInBounds_toArray, List.set_cons_zero, List.set_cons_succ, i64_w, i32_w]
   rfl
  refine pure_ (i := 4) (N := some 29) (v := ?_) (a' := ?_) #[true, true, true, true, true, false, false, false, false, false, false, false, false, false, false, false, false, false, false, false] rfl rfl (any_of HT_.out (by kernel_rfl)) (fun c_ a_ w_ h_ => HPn.out _ _ c_ a_ w_ h_) (Or.inl ⟨by rfl, ?_⟩) ?_ ?_
  rotate_left
  ·intro w'
   go_simp
   with_reducible rfl
  rotate_left
  ·simp only [Act.put, List.setIfInBounds_toArray, List.set_cons_zero, List.set_cons_succ, i64_w, i32_w]
   rfl
  refine pure_ (i := 5) (N := some 30) (v := ?_) (a' := ?_) #[true, true, true, true, true, true, false, false, false, false, false, false, false, false, false, false, false, false, false, false] rfl rfl (any_of HT_.out (by kernel_rfl)) (fun c_ a_ w_ h_ => HPn.out _ _ c_ a_ w_ h_) (Or.inl ⟨by rfl, ?_⟩) ?_ ?_
  rotate_left
  ·intro w'
   go_simp
   with_reducible rfl
  rotate_left
  ·simp only [Act.put, List.setIfInBounds_toArray, List.set_cons_zero, List.set_cons_succ, i64_w, i32_w]
   rfl
  refine pure_ (i := 6) (N := some 31) (v := ?_) (a' := ?_) #[true, true, true, true, true, true, true, false, false, false, false, false, false, false, false, false, false, false, false, false] rfl rfl (any_of HT_.out (by kernel_rfl)) (fun c_ a_ w_ h_ => HPn.out _ _ c_ a_ w_ h_) (Or.inl ⟨by rfl, ?_⟩) ?_ ?_
  rotate_left
  ·intro w'
   go_simp
   with_reducible rfl
  rotate_left
  ·simp only [Act.put, List.setIfInBounds_toArray, List.set_cons_zero, List.set_cons_succ, i64_w, i32_w]
   rfl
  refine pure_ (i := 7) (N := some 32) (v := ?_) (a' := ?_) #[true, true, true, true, true, true, true, true, false, false, false, false, false, false, false, false, false, false, false, false] rfl rfl (any_of HT_.out (by kernel_rfl)) (fun c_ a_ w_ h_ => HPn.out _ _ c_ a_ w_ h_) (Or.inl ⟨by rfl, ?_⟩) ?_ ?_
  rotate_left
  ·intro w'
   go_simp
   with_reducible rfl
  rotate_left
  ·simp only [Act.put, List.setIfInBounds_toArray, List.set_cons_zero, List.set_cons_succ, i64_w, i32_w]
   rfl
  refine pure_ (i := 9) (N := some 34) (v := ?_) (a' := ?_) #[true, true, true, true, true, true, true, true, false, true, false, false, false, false, false, false, false, false, false, false] rfl rfl (any_of HT_.out (by kernel_rfl)) (fun c_ a_ w_ h_ => HPn.out _ _ c_ a_ w_ h_) (Or.inl ⟨by rfl, ?_⟩) ?_ ?_
  rotate_left
  ·intro w'
   go_simp
   with_reducible rfl
  rotate_left
  ·simp only [Act.put, List.setIfInBounds_toArray, List.set_cons_zero, List.set_cons_succ, i64_w, i32_w]
   rfl
  refine one_ (i := 8) (N := some 33) #[true, true, true, true, true, true, true, true, true, true, false, false, false, false, false, false, false, false, false, false] rfl rfl (one_of HT_.out (by kernel_rfl)) (by decide) (fun Kk hK => ?_)
  refine goes_ Tryz.func15 (by kernel_rfl) rfl #[] (by rfl) rfl rfl (by (try simp only [List.map_toArray, List.map_cons, List.map_nil]); first | done | rfl | (simp only [List.length_drop, List.length_take]; rfl)) ?_
  with_reducible refine (spec_l12Calls.calls W9 _ W9_is).mono ?_
  rintro e w25 ⟨v176, rfl, ho0, hb⟩
  refine ⟨_, rfl, ?_⟩
  have n2_ := Aside0.mk ho0
  have n5_ := Aside0.mk (below_step (by exact Sq.bl HB.out) hb)
  clear HB
  have HO177 := n2_
  have HB := n5_
  clear n2_ n5_ hb ho0
  obtain ⟨Ao26, co26, eo26⟩ := Kd.R_slice HO177.out
  (first | subst eo26 | (injection eo26 with f1_ f2_ f3_; have f4_ := f1_.symm; have f5_ := f3_.symm; clear f1_ f2_ f3_; subst f4_; subst f5_))
  have p178 : 0 ≤ (i : Int) := h0
  have q178 : i < (W9.length : Int) := by rw [W9_length]; exact h9
  obtain ⟨ad178, e178, hx178_0⟩ := Kd.at_string (Kd.R_reads' HO177.out).2.2 i p178 q178
  cases e178
  replace p178 := eq_true p178
  replace q178 := eq_true q178
  refine hK.out _ _ trivial (fun hHeld => ?_)
  clear hK Kk
  refine norm_ (a' := ?_) ?_ ?_
  rotate_left
  ·show Act.put _ (some 33) _ = _
   simp only [Act.put, List.setIfInBounds_toArray, List.set_cons_zero, List.set_cons_succ, i64_w, i32_w]
   rfl
  refine wpAnyLast_more (S' := fun w' => w'.cell? (ad178.add (i).toNat) = some (.string (rdOf ByteArray.empty W9 i))) (fun w' h_ => trivial) hx178_0 ?_
  clear hHeld
  have hHeld := hx178_0
  refine pure_ (i := 10) (N := some 35) (v := ?_) (a' := ?_) #[true, true, true, true, true, true, true, true, true, true, true, false, false, false, false, false, false, false, false, false] rfl rfl (any_of HT_.out (by kernel_rfl)) (fun c_ a_ w_ h_ => HPn.out _ _ c_ a_ w_ h_) (Or.inl ⟨by rfl, ?_⟩) ?_ ?_
  rotate_left
  ·intro w'
   go_simp
   with_reducible rfl
  rotate_left
  ·simp only [Act.put, List.setIfInBounds_toArray, List.set_cons_zero, List.set_cons_succ, i64_w, i32_w]
   rfl
  refine take_ (i := 11) (N := some 36) (v := ?_) (a' := ?_) #[true, true, true, true, true, true, true, true, true, true, true, true, false, false, false, false, false, false, false, false] rfl rfl (take_ofW HT_.out HW_.out (by kernel_rfl)) (fun c_ a_ w_ h_ => HPn.out _ _ c_ a_ w_ h_) (Or.inl ⟨by rfl, ?_⟩) hHeld ?_ ?_
  rotate_left
  ·rintro w' s0
   go_simp
   with_reducible rfl
  rotate_left
  ·simp only [Act.put, List.setIfInBounds_toArray, List.set_cons_zero, List.set_cons_succ, i64_w, i32_w]
   rfl
  refine pure_ (i := 12) (N := some 37) (v := ?_) (a' := ?_) #[true, true, true, true, true, true, true, true, true, true, true, true, true, false, false, false, false, false, false, false] rfl rfl (any_of HT_.out (by kernel_rfl)) (fun c_ a_ w_ h_ => HPn.out _ _ c_ a_ w_ h_) (Or.inl ⟨by rfl, ?_⟩) ?_ ?_
  rotate_left
  ·intro w'
   go_simp
   with_reducible rfl
  rotate_left
  ·simp only [Act.put, List.setIfInBounds_toArray, List.set_cons_zero, List.set_cons_succ, i64_w, i32_w]
   rfl
  refine pure_ (i := 13) (N := some 38) (v := ?_) (a' := ?_) #[true, true, true, true, true, true, true, true, true, true, true, true, true, true, false, false, false, false, false, false] rfl rfl (any_of HT_.out (by kernel_rfl)) (fun c_ a_ w_ h_ => HPn.out _ _ c_ a_ w_ h_) (Or.inl ⟨by rfl, ?_⟩) ?_ ?_
  rotate_left
  ·intro w'
   go_simp
   with_reducible rfl
  rotate_left
  ·simp only [Act.put, List.setIfInBounds_toArray, List.set_cons_zero, List.set_cons_succ, i64_w, i32_w]
   rfl
  refine pure_ (i := 14) (N := some 39) (v := ?_) (a' := ?_) #[true, true, true, true, true, true, true, true, true, true, true, true, true, true, true, false, false, false, false, false] rfl rfl (any_of HT_.out (by kernel_rfl)) (fun c_ a_ w_ h_ => HPn.out _ _ c_ a_ w_ h_) (Or.inl ⟨by rfl, ?_⟩) ?_ ?_
  rotate_left
  ·intro w'
   go_simp
   with_reducible rfl
  rotate_left
  ·simp only [Act.put, List.setIfInBounds_toArray, List.set_cons_zero, List.set_cons_succ, i64_w, i32_w]
   rfl
  refine pure_ (i := 15) (N := some 40) (v := ?_) (a' := ?_) #[true, true, true, true, true, true, true, true, true, true, true, true, true, true, true, true, false, false, false, false] rfl rfl (any_of HT_.out (by kernel_rfl)) (fun c_ a_ w_ h_ => HPn.out _ _ c_ a_ w_ h_) (Or.inl ⟨by rfl, ?_⟩) ?_ ?_
  rotate_left
  ·intro w'
   go_simp
   with_reducible rfl
  rotate_left
  ·simp only [Act.put, List.setIfInBounds_toArray, List.set_cons_zero, List.set_cons_succ, i64_w, i32_w]
   rfl
  refine pure_ (i := 16) (N := some 41) (v := ?_) (a' := ?_) #[true, true, true, true, true, true, true, true, true, true, true, true, true, true, true, true, true, false, false, false] rfl rfl (any_of HT_.out (by kernel_rfl)) (fun c_ a_ w_ h_ => HPn.out _ _ c_ a_ w_ h_) (Or.inl ⟨by rfl, ?_⟩) ?_ ?_
  rotate_left
  ·intro w'
   go_simp
   with_reducible rfl
  rotate_left
  ·simp only [Act.put, List.setIfInBounds_toArray, List.set_cons_zero, List.set_cons_succ, i64_w, i32_w]
   rfl
  refine pure_ (i := 17) (N := some 42) (v := ?_) (a' := ?_) #[true, true, true, true, true, true, true, true, true, true, true, true, true, true, true, true, true, true, false, false] rfl rfl (any_of HT_.out (by kernel_rfl)) (fun c_ a_ w_ h_ => HPn.out _ _ c_ a_ w_ h_) (Or.inl ⟨by rfl, ?_⟩) ?_ ?_
  rotate_left
  ·intro w'
   go_simp
   with_reducible rfl
  rotate_left
  ·simp only [Act.put, List.setIfInBounds_toArray, List.set_cons_zero, List.set_cons_succ, i64_w, i32_w]
   rfl
  refine pure_ (i := 18) (N := some 43) (v := ?_) (a' := ?_) #[true, true, true, true, true, true, true, true, true, true, true, true, true, true, true, true, true, true, true, false] rfl rfl (any_of HT_.out (by kernel_rfl)) (fun c_ a_ w_ h_ => HPn.out _ _ c_ a_ w_ h_) (Or.inl ⟨by rfl, ?_⟩) ?_ ?_
  rotate_left
  ·intro w'
   go_simp
   with_reducible rfl
  rotate_left
  ·simp only [Act.put, List.setIfInBounds_toArray, List.set_cons_zero, List.set_cons_succ, i64_w, i32_w]
   rfl
  refine pure_ (i := 19) (N := some 44) (v := ?_) (a' := ?_) #[true, true, true, true, true, true, true, true, true, true, true, true, true, true, true, true, true, true, true, true] rfl rfl (any_of HT_.out (by kernel_rfl)) (fun c_ a_ w_ h_ => HPn.out _ _ c_ a_ w_ h_) (Or.inl ⟨by rfl, ?_⟩) ?_ ?_
  rotate_left
  ·intro w'
   go_simp
   with_reducible rfl
  rotate_left
  ·simp only [Act.put, List.setIfInBounds_toArray, List.set_cons_zero, List.set_cons_succ, i64_w, i32_w]
   rfl
  refine done_ (done_of HT_.out (by kernel_rfl)) ?_
  exact HQ.out _ _ _ _ _ _ _ _ _ _ _ _ _ _ _ _ _ _ _ _ (by repeat (first | exact HB.out | apply pw_below_drewN | apply below_drew1))
set_option maxHeartbeats 8000000 in
set_option maxRecDepth 100000 in
theorem reg30a {Q : Exit → Act → World → Prop} {K D C : Int} {Ao : Option Addr} {co : Nat} {P : List Int} {N T : ByteArray} {b13 : Bool} {b2 b4 : Nat} {c0 c1 c2 c3 c4 c5 : Value} {s0 s1 s3 s5 s6 s7 s8 s9 s10 s12 s14 s15 s16 s17 s18 s19 s20 s21 s22 s23 s24 s25 s26 s27 s28 s29 s30 s31 s32 s33 s34 s35 s36 s37 s38 s39 s40 s41 s42 s43 s44 s45 s46 s47 s48 s49 s50 s51 s52 s53 s54 s55 s56 s57 s58 s59 s60 s61 s62 s63 s64 s65 s66 s67 s68 s69 s70 s71 s72 s73 s74 s75 s76 s77 s78 s79 s80 s81 s82 s83 s84 s85 s86 s87 s88 s89 s90 s91 s92 s93 s94 s95 s96 s97 s98 s99 s100 s101 s102 s103 s104 s105 s106 s107 s108 s109 s110 s111 s112 s113 s114 s115 s116 s117 s118 s119 s120 s121 s122 s123 s124 s125 s126 : Value} {w0 W : World}
  (hne : b4 ≠ b2) (h2 : W.heap[b2]? = some (.cells #[c0, c1, c2, c3, c4, c5] 24 (0, 0))) (h4 : W.heap[b4]? = some (.cells #[.int .i64 K, .int .i64 D, .int .i64 C, .slice Ao P.length co, .string N, .string T] 24 (0, 0))) (hP : Kd.R (Kd.int .i64) 3 W w0.heap.size (fun _ => True) (.slice Ao P.length co) P) (hB : Below w0.heap.size w0 W) (hb2 : w0.heap.size ≤ b2)
  (hp : ∀ N v c a w, Q (.panic c) (Act.put a (some N) v) w → Q (.panic c) a w) (hQ : ∀ (v118 v119 v120 v121 v122 v123 v124 v125 v126 : Value) (W' : World), W'.heap[b2]? = some (.cells #[.int .i64 K, .int .i64 D, .int .i64 C, .slice Ao P.length co, .string N, .string T] 24 (0, 0)) → Kd.R (Kd.int .i64) 3 W' w0.heap.size (fun _ => True) (.slice Ao P.length co) P → Below w0.heap.size w0 W' → Q .normal ⟨#[s0, s1, .pointer (some ⟨b2, 0, none⟩), .bool (false), .pointer (some ⟨b4, 0, none⟩), s5, s6, s7, s8, s9, s10, .bool false, s12, .bool b13, s14, s15, s16, s17, s18, s19, s20, s21, s22, s23, s24, s25, s26, s27, s28, s29, s30, s31, s32, s33, s34, s35, s36, s37, s38, s39, s40, s41, s42, s43, s44, s45, s46, s47, s48, s49, s50, s51, s52, s53, s54, s55, s56, s57, s58, s59, s60, s61, s62, s63, s64, s65, s66, s67, s68, s69, s70, s71, s72, s73, s74, s75, s76, s77, s78, s79, s80, s81, s82, s83, s84, s85, s86, s87, s88, s89, s90, s91, s92, s93, s94, s95, s96, s97, s98, s99, s100, s101, s102, s103, s104, s105, s106, s107, s108, s109, s110, s111, s112, s113, s114, s115, s116, s117, v118, v119, v120, v121, v122, v123, v124, v125, v126], []⟩ W') :
  (Code.region 30 (opsOf Tryz.f9 30) true).wp Tryz.prog Q ⟨#[s0, s1, .pointer (some ⟨b2, 0, none⟩), s3, .pointer (some ⟨b4, 0, none⟩), s5, s6, s7, s8, s9, s10, .bool false, s12, .bool b13, s14, s15, s16, s17, s18, s19, s20, s21, s22, s23, s24, s25, s26, s27, s28, s29, s30, s31, s32, s33, s34, s35, s36, s37, s38, s39, s40, s41, s42, s43, s44, s45, s46, s47, s48, s49, s50, s51, s52, s53, s54, s55, s56, s57, s58, s59, s60, s61, s62, s63, s64, s65, s66, s67, s68, s69, s70, s71, s72, s73, s74, s75, s76, s77, s78, s79, s80, s81, s82, s83, s84, s85, s86, s87, s88, s89, s90, s91, s92, s93, s94, s95, s96, s97, s98, s99, s100, s101, s102, s103, s104, s105, s106, s107, s108, s109, s110, s111, s112, s113, s114, s115, s116, s117, s118, s119, s120, s121, s122, s123, s124, s125, s126], []⟩ W := by
 have hu24 := Tryz.underlying24
 have HN := Aside0.mk hne
 have HB2 := Aside0.mk hb2
 clear hne hb2
 have HPn := Aside0.mk hp
 clear hp
 have HQ := Aside0.mk hQ
 clear hQ
 have BK2 := Aside0.mk (blk_drew h2)
 have BK4 := Aside0.mk (blk_drew h4)
 have HO := Aside0.mk (Kd.R_drew hP)
 have HB := Aside0.mk (below_drew1 hB)
 clear h2 h4 hP hB
 simp only [Tryz.f9, opsOf, opsIn, Option.bind_some, Option.getD_some, Nat.reduceBEq, Bool.false_eq_true, if_false, if_true, beq_self_eq_true]
 refine start_ (n := 11) (S := fun w' => w'.cell? ⟨b4, 0, none⟩ = some (.int .i64 K) ∧ w'.cell? ⟨b4, 1, none⟩ = some (.int .i64 D) ∧ w'.cell? ⟨b4, 2, none⟩ = some (.int .i64 C) ∧ w'.cell? ⟨b4, 3, none⟩ = some (.slice Ao P.length co) ∧ w'.cell? ⟨b4, 4, none⟩ = some (.string N) ∧ w'.cell? ⟨b4, 5, none⟩ = some (.string T)) (ds := []) #[false, false, false, false, false, false, false, false, false, false, false] (by kernel_rfl) rfl rfl ⟨(blk_cell BK4.out 0).trans rfl, (blk_cell BK4.out 1).trans rfl, (blk_cell BK4.out 2).trans rfl, (blk_cell BK4.out 3).trans rfl, (blk_cell BK4.out 4).trans rfl, (blk_cell BK4.out 5).trans rfl⟩ (fun hHeld => ?_); refine with_tabW tab30 bits30 (fun HT_ HW_ => ?_)
 generalize W.drew = w1 at BK2 BK4 HO HB hHeld ⊢
 refine pure_ (i := 1) (N := some 119) (v := ?_) (a' := ?_) #[false, true, false, false, false, false, false, false, false, false, false] rfl rfl (any_of HT_.out (by kernel_rfl)) (fun c_ a_ w_ h_ => HPn.out _ _ c_ a_ w_ h_) (Or.inl ⟨by rfl, ?_⟩) ?_ ?_
 rotate_left
 ·intro w'
  go_simp
  with_reducible rfl
 rotate_left
 ·simp only [Act.put, List.setIfInBounds_toArray, List.set_cons_zero, List.set_cons_succ, i64_w, i32_w]
  rfl
 refine pure_ (i := 2) (N := some 120) (v := ?_) (a' := ?_) #[false, true, true, false, false, false, false, false, false, false, false] rfl rfl (any_of HT_.out (by kernel_rfl)) (fun c_ a_ w_ h_ => HPn.out _ _ c_ a_ w_ h_) (Or.inl ⟨by rfl, ?_⟩) ?_ ?_
 rotate_left
 ·intro w'
  go_simp
  with_reducible rfl
 rotate_left
 ·simp only [Act.put, List.setIfInBounds_toArray, List.set_cons_zero, List.set_cons_succ, i64_w, i32_w]
  rfl
 refine pure_ (i := 3) (N := some 121) (v := undef) (a' := ?_) #[false, true, true, true, false, false, false, false, false, false, false] rfl rfl (any_of HT_.out (by kernel_rfl)) (fun c_ a_ w_ h_ => HPn.out _ _ c_ a_ w_ h_) (Or.inr ⟨by rfl, rfl⟩) ?_ ?_
 rotate_left
 ·simp only [Act.put, List.setIfInBounds_toArray, List.set_cons_zero, List.set_cons_succ, i64_w, i32_w]
  rfl
 refine pure_ (i := 4) (N := some 122) (v := ?_) (a' := ?_) #[false, true, true, true, true, false, false, false, false, false, false] rfl rfl (any_of HT_.out (by kernel_rfl)) (fun c_ a_ w_ h_ => HPn.out _ _ c_ a_ w_ h_) (Or.inl ⟨by rfl, ?_⟩) ?_ ?_
 rotate_left
 ·intro w'
  go_simp
  with_reducible rfl
 rotate_left
 ·simp only [Act.put, List.setIfInBounds_toArray, List.set_cons_zero, List.set_cons_succ, i64_w, i32_w]
  rfl
 refine pure_ (i := 5) (N := some 123) (v := ?_) (a' := ?_) #[false, true, true, true, true, true, false, false, false, false, false] rfl rfl (any_of HT_.out (by kernel_rfl)) (fun c_ a_ w_ h_ => HPn.out _ _ c_ a_ w_ h_) (Or.inl ⟨by rfl, ?_⟩) ?_ ?_
 rotate_left
 ·intro w'
  go_simp
  with_reducible rfl
 rotate_left
 ·simp only [Act.put, List.setIfInBounds_toArray, List.set_cons_zero, List.set_cons_succ, i64_w, i32_w]
  rfl
 refine take_ (i := 0) (N := some 118) (v := ?_) (a' := ?_) #[true, true, true, true, true, true, false, false, false, false, false] rfl rfl (take_ofW HT_.out HW_.out (by kernel_rfl)) (fun c_ a_ w_ h_ => HPn.out _ _ c_ a_ w_ h_) (Or.inl ⟨by rfl, ?_⟩) hHeld ?_ ?_
 rotate_left
 ·rintro w' ⟨s0, s1, s2, s3, s4, s5⟩
  go_simp
  with_reducible rfl
 rotate_left
 ·simp only [Act.put, List.setIfInBounds_toArray, List.set_cons_zero, List.set_cons_succ, i64_w, i32_w]
  rfl
 refine pure_ (i := 6) (N := some 124) (v := undef) (a' := ?_) #[true, true, true, true, true, true, true, false, false, false, false] rfl rfl (any_of HT_.out (by kernel_rfl)) (fun c_ a_ w_ h_ => HPn.out _ _ c_ a_ w_ h_) (Or.inr ⟨by rfl, rfl⟩) ?_ ?_
 rotate_left
 ·simp only [Act.put, List.setIfInBounds_toArray, List.set_cons_zero, List.set_cons_succ, i64_w, i32_w]
  rfl
 refine pure_ (i := 7) (N := some 125) (v := undef) (a' := ?_) #[true, true, true, true, true, true, true, true, false, false, false] rfl rfl (any_of HT_.out (by kernel_rfl)) (fun c_ a_ w_ h_ => HPn.out _ _ c_ a_ w_ h_) (Or.inr ⟨by rfl, rfl⟩) ?_ ?_
 rotate_left
 ·simp only [Act.put, List.setIfInBounds_toArray, List.set_cons_zero, List.set_cons_succ, i64_w, i32_w]
  rfl
 refine pure_ (i := 8) (N := some 126) (v := ?_) (a' := ?_) #[true, true, true, true, true, true, true, true, true, false, false] rfl rfl (any_of HT_.out (by kernel_rfl)) (fun c_ a_ w_ h_ => HPn.out _ _ c_ a_ w_ h_) (Or.inl ⟨by rfl, ?_⟩) ?_ ?_
 rotate_left
 ·intro w'
  go_simp
  with_reducible rfl
 rotate_left
 ·simp only [Act.put, List.setIfInBounds_toArray, List.set_cons_zero, List.set_cons_succ, i64_w, i32_w]
  rfl
 refine one_ (i := 9) (N := none) #[true, true, true, true, true, true, true, true, true, true, false] rfl rfl (one_of HT_.out (by kernel_rfl)) (by decide) (fun Kk hK => ?_)
 have hs0 : w1.cell? ⟨b2, 0, none⟩ = some c0 := (blk_cell BK2.out 0).trans rfl
 have hfs0 := blk_frozen BK2.out 0
 have hs1 : w1.cell? ⟨b2, 1, none⟩ = some c1 := (blk_cell BK2.out 1).trans rfl
 have hfs1 := blk_frozen BK2.out 1
 have hs2 : w1.cell? ⟨b2, 2, none⟩ = some c2 := (blk_cell BK2.out 2).trans rfl
 have hfs2 := blk_frozen BK2.out 2
 have hs3 : w1.cell? ⟨b2, 3, none⟩ = some c3 := (blk_cell BK2.out 3).trans rfl
 have hfs3 := blk_frozen BK2.out 3
 have hs4 : w1.cell? ⟨b2, 4, none⟩ = some c4 := (blk_cell BK2.out 4).trans rfl
 have hfs4 := blk_frozen BK2.out 4
 have hs5 : w1.cell? ⟨b2, 5, none⟩ = some c5 := (blk_cell BK2.out 5).trans rfl
 have hfs5 := blk_frozen BK2.out 5
 have hne1 := HN.out
 have hne2 := HN.out.symm
 refine skip_ (w1 := ?_) (by rfl) rfl ?_ ?_
 rotate_left
 ·go_simp
  rfl
 have HB9 := Aside0.mk (show Below w0.heap.size w0 ((((((w1.setCell ⟨b2, 0, none⟩ (.int .i64 K)).setCell ⟨b2, 1, none⟩ (.int .i64 D)).setCell ⟨b2, 2, none⟩ (.int .i64 C)).setCell ⟨b2, 3, none⟩ (.slice Ao P.length co)).setCell ⟨b2, 4, none⟩ (.string N)).setCell ⟨b2, 5, none⟩ (.string T)) from by repeat (first | exact HB.out | refine below_set ?_ HB2.out))
 have HO9 := Aside0.mk (show Kd.R (Kd.int .i64) 3 ((((((w1.setCell ⟨b2, 0, none⟩ (.int .i64 K)).setCell ⟨b2, 1, none⟩ (.int .i64 D)).setCell ⟨b2, 2, none⟩ (.int .i64 C)).setCell ⟨b2, 3, none⟩ (.slice Ao P.length co)).setCell ⟨b2, 4, none⟩ (.string N)).setCell ⟨b2, 5, none⟩ (.string T)) w0.heap.size (fun _ => True) (.slice Ao P.length co) P from Kd.R_mono (Kd.R_far (p := ⟨b2, 5, none⟩) (Kd.R_far (p := ⟨b2, 4, none⟩) (Kd.R_far (p := ⟨b2, 3, none⟩) (Kd.R_far (p := ⟨b2, 2, none⟩) (Kd.R_far (p := ⟨b2, 1, none⟩) (Kd.R_far (p := ⟨b2, 0, none⟩) (Kd.R_types HO.out BK2.out (by decide)) (fun _ hk => hk.2) _) (fun _ hk => hk.2) _) (fun _ hk => hk.2) _) (fun _ hk => hk.2) _) (fun _ hk => hk.2) _) (fun _ hk => hk.2) _) (fun _ hk => trivial))
 have BK9 := Aside0.mk (six_put BK2.out (.int .i64 K) (.int .i64 D) (.int .i64 C) (.slice Ao P.length co) (.string N) (.string T))
 have BK49 := Aside0.mk ((six_far (g := b2) HN.out (.int .i64 K) (.int .i64 D) (.int .i64 C) (.slice Ao P.length co) (.string N) (.string T)).trans BK4.out)
 have hS9 : (fun w' : World => w'.cell? ⟨b4, 0, none⟩ = some (.int .i64 K) ∧ w'.cell? ⟨b4, 1, none⟩ = some (.int .i64 D) ∧ w'.cell? ⟨b4, 2, none⟩ = some (.int .i64 C) ∧ w'.cell? ⟨b4, 3, none⟩ = some (.slice Ao P.length co) ∧ w'.cell? ⟨b4, 4, none⟩ = some (.string N) ∧ w'.cell? ⟨b4, 5, none⟩ = some (.string T)) ((((((w1.setCell ⟨b2, 0, none⟩ (.int .i64 K)).setCell ⟨b2, 1, none⟩ (.int .i64 D)).setCell ⟨b2, 2, none⟩ (.int .i64 C)).setCell ⟨b2, 3, none⟩ (.slice Ao P.length co)).setCell ⟨b2, 4, none⟩ (.string N)).setCell ⟨b2, 5, none⟩ (.string T)) := ⟨(blk_cell BK49.out 0).trans rfl, (blk_cell BK49.out 1).trans rfl, (blk_cell BK49.out 2).trans rfl, (blk_cell BK49.out 3).trans rfl, (blk_cell BK49.out 4).trans rfl, (blk_cell BK49.out 5).trans rfl⟩
 refine hK.out _ _ hS9 (fun hHeld => ?_)
 clear hK
 refine pure_ (i := 10) (N := some 3) (v := ?_) (a' := ?_) #[true, true, true, true, true, true, true, true, true, true, true] rfl rfl (any_of HT_.out (by kernel_rfl)) (fun c_ a_ w_ h_ => HPn.out _ _ c_ a_ w_ h_) (Or.inl ⟨by rfl, ?_⟩) ?_ ?_
 rotate_left
 ·intro w'
  go_simp
  with_reducible rfl
 rotate_left
 ·simp only [Act.put, List.setIfInBounds_toArray, List.set_cons_zero, List.set_cons_succ, i64_w, i32_w]
  rfl
 refine done_ (done_of HT_.out (by kernel_rfl)) ?_
 exact HQ.out _ _ _ _ _ _ _ _ _ _ BK9.out HO9.out HB9.out
set_option maxHeartbeats 8000000 in
set_option maxRecDepth 100000 in
theorem reg30b {Q : Exit → Act → World → Prop} {K D C : Int} {Ao : Option Addr} {co : Nat} {P : List Int} {N T : ByteArray} {b2 b4 : Nat} {c0 c1 c2 c3 c4 c5 : Value} {s0 s1 s3 s5 s6 s7 s8 s9 s10 s12 s14 s15 s16 s17 s18 s19 s20 s21 s22 s23 s24 s25 s26 s27 s28 s29 s30 s31 s32 s33 s34 s35 s36 s37 s38 s39 s40 s41 s42 s43 s44 s45 s46 s47 s48 s49 s50 s51 s52 s53 s54 s55 s56 s57 s58 s59 s60 s61 s62 s63 s64 s65 s66 s67 s68 s69 s70 s71 s72 s73 s74 s75 s76 s77 s78 s79 s80 s81 s82 s83 s84 s85 s86 s87 s88 s89 s90 s91 s92 s93 s94 s95 s96 s97 s98 s99 s100 s101 s102 s103 s104 s105 s106 s107 s108 s109 s110 s111 s112 s113 s114 s115 s116 s117 s118 s119 s120 s121 s122 s123 s124 s125 s126 : Value} {w0 W : World}
  (hne : b4 ≠ b2) (h2 : W.heap[b2]? = some (.cells #[c0, c1, c2, c3, c4, c5] 24 (0, 0))) (h4 : W.heap[b4]? = some (.cells #[.int .i64 K, .int .i64 D, .int .i64 C, .slice Ao P.length co, .string N, .string T] 24 (0, 0))) (hP : Kd.R (Kd.int .i64) 3 W w0.heap.size (fun _ => True) (.slice Ao P.length co) P) (hB : Below w0.heap.size w0 W) (hb2 : w0.heap.size ≤ b2)
  (hp : ∀ N v c a w, Q (.panic c) (Act.put a (some N) v) w → Q (.panic c) a w) (hQ : ∀ (v118 v119 v120 v121 v122 v123 v124 v125 v126 : Value) (W' : World), W'.heap[b2]? = some (.cells #[.int .i64 K, .int .i64 D, .int .i64 C, .slice Ao P.length co, .string N, .string T] 24 (0, 0)) → Kd.R (Kd.int .i64) 3 W' w0.heap.size (fun _ => True) (.slice Ao P.length co) P → Below w0.heap.size w0 W' → Q .normal ⟨#[s0, s1, .pointer (some ⟨b2, 0, none⟩), .bool (false), .pointer (some ⟨b4, 0, none⟩), s5, s6, s7, s8, s9, s10, .bool true, s12, .bool false, s14, s15, s16, s17, s18, s19, s20, s21, s22, s23, s24, s25, s26, s27, s28, s29, s30, s31, s32, s33, s34, s35, s36, s37, s38, s39, s40, s41, s42, s43, s44, s45, s46, s47, s48, s49, s50, s51, s52, s53, s54, s55, s56, s57, s58, s59, s60, s61, s62, s63, s64, s65, s66, s67, s68, s69, s70, s71, s72, s73, s74, s75, s76, s77, s78, s79, s80, s81, s82, s83, s84, s85, s86, s87, s88, s89, s90, s91, s92, s93, s94, s95, s96, s97, s98, s99, s100, s101, s102, s103, s104, s105, s106, s107, s108, s109, s110, s111, s112, s113, s114, s115, s116, s117, v118, v119, v120, v121, v122, v123, v124, v125, v126], []⟩ W') :
  (Code.region 30 (opsOf Tryz.f9 30) true).wp Tryz.prog Q ⟨#[s0, s1, .pointer (some ⟨b2, 0, none⟩), s3, .pointer (some ⟨b4, 0, none⟩), s5, s6, s7, s8, s9, s10, .bool true, s12, .bool false, s14, s15, s16, s17, s18, s19, s20, s21, s22, s23, s24, s25, s26, s27, s28, s29, s30, s31, s32, s33, s34, s35, s36, s37, s38, s39, s40, s41, s42, s43, s44, s45, s46, s47, s48, s49, s50, s51, s52, s53, s54, s55, s56, s57, s58, s59, s60, s61, s62, s63, s64, s65, s66, s67, s68, s69, s70, s71, s72, s73, s74, s75, s76, s77, s78, s79, s80, s81, s82, s83, s84, s85, s86, s87, s88, s89, s90, s91, s92, s93, s94, s95, s96, s97, s98, s99, s100, s101, s102, s103, s104, s105, s106, s107, s108, s109, s110, s111, s112, s113, s114, s115, s116, s117, s118, s119, s120, s121, s122, s123, s124, s125, s126], []⟩ W := by
 have hu24 := Tryz.underlying24
 have HN := Aside0.mk hne
 have HB2 := Aside0.mk hb2
 clear hne hb2
 have HPn := Aside0.mk hp
 clear hp
 have HQ := Aside0.mk hQ
 clear hQ
 have BK2 := Aside0.mk (blk_drew h2)
 have BK4 := Aside0.mk (blk_drew h4)
 have HO := Aside0.mk (Kd.R_drew hP)
 have HB := Aside0.mk (below_drew1 hB)
 clear h2 h4 hP hB
 simp only [Tryz.f9, opsOf, opsIn, Option.bind_some, Option.getD_some, Nat.reduceBEq, Bool.false_eq_true, if_false, if_true, beq_self_eq_true]
 refine start_ (n := 11) (S := fun w' => w'.cell? ⟨b4, 0, none⟩ = some (.int .i64 K) ∧ w'.cell? ⟨b4, 1, none⟩ = some (.int .i64 D) ∧ w'.cell? ⟨b4, 2, none⟩ = some (.int .i64 C) ∧ w'.cell? ⟨b4, 3, none⟩ = some (.slice Ao P.length co) ∧ w'.cell? ⟨b4, 4, none⟩ = some (.string N) ∧ w'.cell? ⟨b4, 5, none⟩ = some (.string T)) (ds := []) #[false, false, false, false, false, false, false, false, false, false, false] (by kernel_rfl) rfl rfl ⟨(blk_cell BK4.out 0).trans rfl, (blk_cell BK4.out 1).trans rfl, (blk_cell BK4.out 2).trans rfl, (blk_cell BK4.out 3).trans rfl, (blk_cell BK4.out 4).trans rfl, (blk_cell BK4.out 5).trans rfl⟩ (fun hHeld => ?_); refine with_tabW tab30 bits30 (fun HT_ HW_ => ?_)
 generalize W.drew = w1 at BK2 BK4 HO HB hHeld ⊢
 refine pure_ (i := 1) (N := some 119) (v := ?_) (a' := ?_) #[false, true, false, false, false, false, false, false, false, false, false] rfl rfl (any_of HT_.out (by kernel_rfl)) (fun c_ a_ w_ h_ => HPn.out _ _ c_ a_ w_ h_) (Or.inl ⟨by rfl, ?_⟩) ?_ ?_
 rotate_left
 ·intro w'
  go_simp
  with_reducible rfl
 rotate_left
 ·simp only [Act.put, List.setIfInBounds_toArray, List.set_cons_zero, List.set_cons_succ, i64_w, i32_w]
  rfl
 refine pure_ (i := 2) (N := some 120) (v := ?_) (a' := ?_) #[false, true, true, false, false, false, false, false, false, false, false] rfl rfl (any_of HT_.out (by kernel_rfl)) (fun c_ a_ w_ h_ => HPn.out _ _ c_ a_ w_ h_) (Or.inl ⟨by rfl, ?_⟩) ?_ ?_
 rotate_left
 ·intro w'
  go_simp
  with_reducible rfl
 rotate_left
 ·simp only [Act.put, List.setIfInBounds_toArray, List.set_cons_zero, List.set_cons_succ, i64_w, i32_w]
  rfl
 refine pure_ (i := 3) (N := some 121) (v := ?_) (a' := ?_) #[false, true, true, true, false, false, false, false, false, false, false] rfl rfl (any_of HT_.out (by kernel_rfl)) (fun c_ a_ w_ h_ => HPn.out _ _ c_ a_ w_ h_) (Or.inl ⟨by rfl, ?_⟩) ?_ ?_
 rotate_left
 ·intro w'
  go_simp
  with_reducible rfl
 rotate_left
 ·simp only [Act.put, List.setIfInBounds_toArray, List.set_cons_zero, List.set_cons_succ, i64_w, i32_w]
  rfl
 refine pure_ (i := 4) (N := some 122) (v := ?_) (a' := ?_) #[false, true, true, true, true, false, false, false, false, false, false] rfl rfl (any_of HT_.out (by kernel_rfl)) (fun c_ a_ w_ h_ => HPn.out _ _ c_ a_ w_ h_) (Or.inl ⟨by rfl, ?_⟩) ?_ ?_
 rotate_left
 ·intro w'
  go_simp
  with_reducible rfl
 rotate_left
 ·simp only [Act.put, List.setIfInBounds_toArray, List.set_cons_zero, List.set_cons_succ, i64_w, i32_w]
  rfl
 refine pure_ (i := 5) (N := some 123) (v := ?_) (a' := ?_) #[false, true, true, true, true, true, false, false, false, false, false] rfl rfl (any_of HT_.out (by kernel_rfl)) (fun c_ a_ w_ h_ => HPn.out _ _ c_ a_ w_ h_) (Or.inl ⟨by rfl, ?_⟩) ?_ ?_
 rotate_left
 ·intro w'
  go_simp
  with_reducible rfl
 rotate_left
 ·simp only [Act.put, List.setIfInBounds_toArray, List.set_cons_zero, List.set_cons_succ, i64_w, i32_w]
  rfl
 refine take_ (i := 0) (N := some 118) (v := ?_) (a' := ?_) #[true, true, true, true, true, true, false, false, false, false, false] rfl rfl (take_ofW HT_.out HW_.out (by kernel_rfl)) (fun c_ a_ w_ h_ => HPn.out _ _ c_ a_ w_ h_) (Or.inl ⟨by rfl, ?_⟩) hHeld ?_ ?_
 rotate_left
 ·rintro w' ⟨s0, s1, s2, s3, s4, s5⟩
  go_simp
  with_reducible rfl
 rotate_left
 ·simp only [Act.put, List.setIfInBounds_toArray, List.set_cons_zero, List.set_cons_succ, i64_w, i32_w]
  rfl
 refine pure_ (i := 6) (N := some 124) (v := undef) (a' := ?_) #[true, true, true, true, true, true, true, false, false, false, false] rfl rfl (any_of HT_.out (by kernel_rfl)) (fun c_ a_ w_ h_ => HPn.out _ _ c_ a_ w_ h_) (Or.inr ⟨by rfl, rfl⟩) ?_ ?_
 rotate_left
 ·simp only [Act.put, List.setIfInBounds_toArray, List.set_cons_zero, List.set_cons_succ, i64_w, i32_w]
  rfl
 refine pure_ (i := 7) (N := some 125) (v := undef) (a' := ?_) #[true, true, true, true, true, true, true, true, false, false, false] rfl rfl (any_of HT_.out (by kernel_rfl)) (fun c_ a_ w_ h_ => HPn.out _ _ c_ a_ w_ h_) (Or.inr ⟨by rfl, rfl⟩) ?_ ?_
 rotate_left
 ·simp only [Act.put, List.setIfInBounds_toArray, List.set_cons_zero, List.set_cons_succ, i64_w, i32_w]
  rfl
 refine pure_ (i := 8) (N := some 126) (v := ?_) (a' := ?_) #[true, true, true, true, true, true, true, true, true, false, false] rfl rfl (any_of HT_.out (by kernel_rfl)) (fun c_ a_ w_ h_ => HPn.out _ _ c_ a_ w_ h_) (Or.inl ⟨by rfl, ?_⟩) ?_ ?_
 rotate_left
 ·intro w'
  go_simp
  with_reducible rfl
 rotate_left
 ·simp only [Act.put, List.setIfInBounds_toArray, List.set_cons_zero, List.set_cons_succ, i64_w, i32_w]
  rfl
 refine one_ (i := 9) (N := none) #[true, true, true, true, true, true, true, true, true, true, false] rfl rfl (one_of HT_.out (by kernel_rfl)) (by decide) (fun Kk hK => ?_)
 have hs0 : w1.cell? ⟨b2, 0, none⟩ = some c0 := (blk_cell BK2.out 0).trans rfl
 have hfs0 := blk_frozen BK2.out 0
 have hs1 : w1.cell? ⟨b2, 1, none⟩ = some c1 := (blk_cell BK2.out 1).trans rfl
 have hfs1 := blk_frozen BK2.out 1
 have hs2 : w1.cell? ⟨b2, 2, none⟩ = some c2 := (blk_cell BK2.out 2).trans rfl
 have hfs2 := blk_frozen BK2.out 2
 have hs3 : w1.cell? ⟨b2, 3, none⟩ = some c3 := (blk_cell BK2.out 3).trans rfl
 have hfs3 := blk_frozen BK2.out 3
 have hs4 : w1.cell? ⟨b2, 4, none⟩ = some c4 := (blk_cell BK2.out 4).trans rfl
 have hfs4 := blk_frozen BK2.out 4
 have hs5 : w1.cell? ⟨b2, 5, none⟩ = some c5 := (blk_cell BK2.out 5).trans rfl
 have hfs5 := blk_frozen BK2.out 5
 have hne1 := HN.out
 have hne2 := HN.out.symm
 refine skip_ (w1 := ?_) (by rfl) rfl ?_ ?_
 rotate_left
 ·go_simp
  rfl
 have HB9 := Aside0.mk (show Below w0.heap.size w0 ((((((w1.setCell ⟨b2, 0, none⟩ (.int .i64 K)).setCell ⟨b2, 1, none⟩ (.int .i64 D)).setCell ⟨b2, 2, none⟩ (.int .i64 C)).setCell ⟨b2, 3, none⟩ (.slice Ao P.length co)).setCell ⟨b2, 4, none⟩ (.string N)).setCell ⟨b2, 5, none⟩ (.string T)) from by repeat (first | exact HB.out | refine below_set ?_ HB2.out))
 have HO9 := Aside0.mk (show Kd.R (Kd.int .i64) 3 ((((((w1.setCell ⟨b2, 0, none⟩ (.int .i64 K)).setCell ⟨b2, 1, none⟩ (.int .i64 D)).setCell ⟨b2, 2, none⟩ (.int .i64 C)).setCell ⟨b2, 3, none⟩ (.slice Ao P.length co)).setCell ⟨b2, 4, none⟩ (.string N)).setCell ⟨b2, 5, none⟩ (.string T)) w0.heap.size (fun _ => True) (.slice Ao P.length co) P from Kd.R_mono (Kd.R_far (p := ⟨b2, 5, none⟩) (Kd.R_far (p := ⟨b2, 4, none⟩) (Kd.R_far (p := ⟨b2, 3, none⟩) (Kd.R_far (p := ⟨b2, 2, none⟩) (Kd.R_far (p := ⟨b2, 1, none⟩) (Kd.R_far (p := ⟨b2, 0, none⟩) (Kd.R_types HO.out BK2.out (by decide)) (fun _ hk => hk.2) _) (fun _ hk => hk.2) _) (fun _ hk => hk.2) _) (fun _ hk => hk.2) _) (fun _ hk => hk.2) _) (fun _ hk => hk.2) _) (fun _ hk => trivial))
 have BK9 := Aside0.mk (six_put BK2.out (.int .i64 K) (.int .i64 D) (.int .i64 C) (.slice Ao P.length co) (.string N) (.string T))
 have BK49 := Aside0.mk ((six_far (g := b2) HN.out (.int .i64 K) (.int .i64 D) (.int .i64 C) (.slice Ao P.length co) (.string N) (.string T)).trans BK4.out)
 have hS9 : (fun w' : World => w'.cell? ⟨b4, 0, none⟩ = some (.int .i64 K) ∧ w'.cell? ⟨b4, 1, none⟩ = some (.int .i64 D) ∧ w'.cell? ⟨b4, 2, none⟩ = some (.int .i64 C) ∧ w'.cell? ⟨b4, 3, none⟩ = some (.slice Ao P.length co) ∧ w'.cell? ⟨b4, 4, none⟩ = some (.string N) ∧ w'.cell? ⟨b4, 5, none⟩ = some (.string T)) ((((((w1.setCell ⟨b2, 0, none⟩ (.int .i64 K)).setCell ⟨b2, 1, none⟩ (.int .i64 D)).setCell ⟨b2, 2, none⟩ (.int .i64 C)).setCell ⟨b2, 3, none⟩ (.slice Ao P.length co)).setCell ⟨b2, 4, none⟩ (.string N)).setCell ⟨b2, 5, none⟩ (.string T)) := ⟨(blk_cell BK49.out 0).trans rfl, (blk_cell BK49.out 1).trans rfl, (blk_cell BK49.out 2).trans rfl, (blk_cell BK49.out 3).trans rfl, (blk_cell BK49.out 4).trans rfl, (blk_cell BK49.out 5).trans rfl⟩
 refine hK.out _ _ hS9 (fun hHeld => ?_)
 clear hK
 refine pure_ (i := 10) (N := some 3) (v := ?_) (a' := ?_) #[true, true, true, true, true, true, true, true, true, true, true] rfl rfl (any_of HT_.out (by kernel_rfl)) (fun c_ a_ w_ h_ => HPn.out _ _ c_ a_ w_ h_) (Or.inl ⟨by rfl, ?_⟩) ?_ ?_
 rotate_left
 ·intro w'
  go_simp
  with_reducible rfl
 rotate_left
 ·simp only [Act.put, List.setIfInBounds_toArray, List.set_cons_zero, List.set_cons_succ, i64_w, i32_w]
  rfl
 refine done_ (done_of HT_.out (by kernel_rfl)) ?_
 exact HQ.out _ _ _ _ _ _ _ _ _ _ BK9.out HO9.out HB9.out
set_option maxHeartbeats 8000000 in
set_option maxRecDepth 100000 in
theorem reg30c {Q : Exit → Act → World → Prop} {k : Nat} {K D C : Int} {Ao : Option Addr} {co : Nat} {P : List Int} {N T : ByteArray} {r : Bool} {b2 b4 : Nat} {c0 c1 c2 c3 c4 c5 : Value} {s0 s1 s3 s5 s6 s7 s8 s9 s10 s12 s14 s15 s16 s17 s18 s19 s20 s21 s22 s23 s24 s25 s26 s27 s28 s29 s30 s31 s32 s33 s34 s35 s36 s37 s38 s39 s40 s41 s42 s43 s44 s45 s46 s47 s48 s49 s50 s51 s52 s53 s54 s55 s56 s57 s58 s59 s60 s61 s62 s63 s64 s65 s66 s67 s68 s69 s70 s71 s72 s73 s74 s75 s76 s77 s78 s79 s80 s81 s82 s83 s84 s85 s86 s87 s88 s89 s90 s91 s92 s93 s94 s95 s96 s97 s98 s99 s100 s101 s102 s103 s104 s105 s106 s107 s108 s109 s110 s111 s112 s113 s114 s115 s116 s117 s118 s119 s120 s121 s122 s123 s124 s125 s126 : Value} {w0 W : World}
  (ht : spec_l10Call.f k K D C P N T = some r) (hne : b4 ≠ b2) (h2 : W.heap[b2]? = some (.cells #[c0, c1, c2, c3, c4, c5] 24 (0, 0))) (h4 : W.heap[b4]? = some (.cells #[.int .i64 K, .int .i64 D, .int .i64 C, .slice Ao P.length co, .string N, .string T] 24 (0, 0))) (hP : Kd.R (Kd.int .i64) 3 W w0.heap.size (fun _ => True) (.slice Ao P.length co) P) (hB : Below w0.heap.size w0 W) (hb2 : w0.heap.size ≤ b2)
  (hp : ∀ N v c a w, Q (.panic c) (Act.put a (some N) v) w → Q (.panic c) a w) (hQ : ∀ (v118 v119 v120 v121 v122 v123 v124 v125 v126 : Value) (W' : World), W'.heap[b2]? = some (.cells #[.int .i64 K, .int .i64 D, .int .i64 C, .slice Ao P.length co, .string N, .string T] 24 (0, 0)) → Kd.R (Kd.int .i64) 3 W' w0.heap.size (fun _ => True) (.slice Ao P.length co) P → Below w0.heap.size w0 W' → Q .normal ⟨#[s0, s1, .pointer (some ⟨b2, 0, none⟩), .bool (r), .pointer (some ⟨b4, 0, none⟩), s5, s6, s7, s8, s9, s10, .bool true, s12, .bool true, s14, s15, s16, s17, s18, s19, s20, s21, s22, s23, s24, s25, s26, s27, s28, s29, s30, s31, s32, s33, s34, s35, s36, s37, s38, s39, s40, s41, s42, s43, s44, s45, s46, s47, s48, s49, s50, s51, s52, s53, s54, s55, s56, s57, s58, s59, s60, s61, s62, s63, s64, s65, s66, s67, s68, s69, s70, s71, s72, s73, s74, s75, s76, s77, s78, s79, s80, s81, s82, s83, s84, s85, s86, s87, s88, s89, s90, s91, s92, s93, s94, s95, s96, s97, s98, s99, s100, s101, s102, s103, s104, s105, s106, s107, s108, s109, s110, s111, s112, s113, s114, s115, s116, s117, v118, v119, v120, v121, v122, v123, v124, v125, v126], []⟩ W') :
  (Code.region 30 (opsOf Tryz.f9 30) true).wp Tryz.prog Q ⟨#[s0, s1, .pointer (some ⟨b2, 0, none⟩), s3, .pointer (some ⟨b4, 0, none⟩), s5, s6, s7, s8, s9, s10, .bool true, s12, .bool true, s14, s15, s16, s17, s18, s19, s20, s21, s22, s23, s24, s25, s26, s27, s28, s29, s30, s31, s32, s33, s34, s35, s36, s37, s38, s39, s40, s41, s42, s43, s44, s45, s46, s47, s48, s49, s50, s51, s52, s53, s54, s55, s56, s57, s58, s59, s60, s61, s62, s63, s64, s65, s66, s67, s68, s69, s70, s71, s72, s73, s74, s75, s76, s77, s78, s79, s80, s81, s82, s83, s84, s85, s86, s87, s88, s89, s90, s91, s92, s93, s94, s95, s96, s97, s98, s99, s100, s101, s102, s103, s104, s105, s106, s107, s108, s109, s110, s111, s112, s113, s114, s115, s116, s117, s118, s119, s120, s121, s122, s123, s124, s125, s126], []⟩ W := by
 have hu24 := Tryz.underlying24
 have HT := Aside0.mk ht
 clear ht
 have HN := Aside0.mk hne
 have HB2 := Aside0.mk hb2
 clear hne hb2
 have HPn := Aside0.mk hp
 clear hp
 have HQ := Aside0.mk hQ
 clear hQ
 have BK2 := Aside0.mk (blk_drew h2)
 have BK4 := Aside0.mk (blk_drew h4)
 have HO := Aside0.mk (Kd.R_drew hP)
 have HB := Aside0.mk (below_drew1 hB)
 clear h2 h4 hP hB
 simp only [Tryz.f9, opsOf, opsIn, Option.bind_some, Option.getD_some, Nat.reduceBEq, Bool.false_eq_true, if_false, if_true, beq_self_eq_true]
 refine start_ (n := 11) (S := fun w' => w'.cell? ⟨b4, 0, none⟩ = some (.int .i64 K) ∧ w'.cell? ⟨b4, 1, none⟩ = some (.int .i64 D) ∧ w'.cell? ⟨b4, 2, none⟩ = some (.int .i64 C) ∧ w'.cell? ⟨b4, 3, none⟩ = some (.slice Ao P.length co) ∧ w'.cell? ⟨b4, 4, none⟩ = some (.string N) ∧ w'.cell? ⟨b4, 5, none⟩ = some (.string T)) (ds := []) #[false, false, false, false, false, false, false, false, false, false, false] (by kernel_rfl) rfl rfl ⟨(blk_cell BK4.out 0).trans rfl, (blk_cell BK4.out 1).trans rfl, (blk_cell BK4.out 2).trans rfl, (blk_cell BK4.out 3).trans rfl, (blk_cell BK4.out 4).trans rfl, (blk_cell BK4.out 5).trans rfl⟩ (fun hHeld => ?_); refine with_tabW tab30 bits30 (fun HT_ HW_ => ?_)
 generalize W.drew = w1 at BK2 BK4 HO HB hHeld ⊢
 refine pure_ (i := 1) (N := some 119) (v := ?_) (a' := ?_) #[false, true, false, false, false, false, false, false, false, false, false] rfl rfl (any_of HT_.out (by kernel_rfl)) (fun c_ a_ w_ h_ => HPn.out _ _ c_ a_ w_ h_) (Or.inl ⟨by rfl, ?_⟩) ?_ ?_
 rotate_left
 ·intro w'
  go_simp
  with_reducible rfl
 rotate_left
 ·simp only [Act.put, List.setIfInBounds_toArray, List.set_cons_zero, List.set_cons_succ, i64_w, i32_w]
  rfl
 refine pure_ (i := 2) (N := some 120) (v := ?_) (a' := ?_) #[false, true, true, false, false, false, false, false, false, false, false] rfl rfl (any_of HT_.out (by kernel_rfl)) (fun c_ a_ w_ h_ => HPn.out _ _ c_ a_ w_ h_) (Or.inl ⟨by rfl, ?_⟩) ?_ ?_
 rotate_left
 ·intro w'
  go_simp
  with_reducible rfl
 rotate_left
 ·simp only [Act.put, List.setIfInBounds_toArray, List.set_cons_zero, List.set_cons_succ, i64_w, i32_w]
  rfl
 refine pure_ (i := 3) (N := some 121) (v := ?_) (a' := ?_) #[false, true, true, true, false, false, false, false, false, false, false] rfl rfl (any_of HT_.out (by kernel_rfl)) (fun c_ a_ w_ h_ => HPn.out _ _ c_ a_ w_ h_) (Or.inl ⟨by rfl, ?_⟩) ?_ ?_
 rotate_left
 ·intro w'
  go_simp
  with_reducible rfl
 rotate_left
 ·simp only [Act.put, List.setIfInBounds_toArray, List.set_cons_zero, List.set_cons_succ, i64_w, i32_w]
  rfl
 refine pure_ (i := 4) (N := some 122) (v := ?_) (a' := ?_) #[false, true, true, true, true, false, false, false, false, false, false] rfl rfl (any_of HT_.out (by kernel_rfl)) (fun c_ a_ w_ h_ => HPn.out _ _ c_ a_ w_ h_) (Or.inl ⟨by rfl, ?_⟩) ?_ ?_
 rotate_left
 ·intro w'
  go_simp
  with_reducible rfl
 rotate_left
 ·simp only [Act.put, List.setIfInBounds_toArray, List.set_cons_zero, List.set_cons_succ, i64_w, i32_w]
  rfl
 refine pure_ (i := 5) (N := some 123) (v := ?_) (a' := ?_) #[false, true, true, true, true, true, false, false, false, false, false] rfl rfl (any_of HT_.out (by kernel_rfl)) (fun c_ a_ w_ h_ => HPn.out _ _ c_ a_ w_ h_) (Or.inl ⟨by rfl, ?_⟩) ?_ ?_
 rotate_left
 ·intro w'
  go_simp
  with_reducible rfl
 rotate_left
 ·simp only [Act.put, List.setIfInBounds_toArray, List.set_cons_zero, List.set_cons_succ, i64_w, i32_w]
  rfl
 refine take_ (i := 0) (N := some 118) (v := ?_) (a' := ?_) #[true, true, true, true, true, true, false, false, false, false, false] rfl rfl (take_ofW HT_.out HW_.out (by kernel_rfl)) (fun c_ a_ w_ h_ => HPn.out _ _ c_ a_ w_ h_) (Or.inl ⟨by rfl, ?_⟩) hHeld ?_ ?_
 rotate_left
 ·rintro w' ⟨s0, s1, s2, s3, s4, s5⟩
  go_simp
  with_reducible rfl
 rotate_left
 ·simp only [Act.put, List.setIfInBounds_toArray, List.set_cons_zero, List.set_cons_succ, i64_w, i32_w]
  rfl
 refine take_ (i := 6) (N := some 124) (v := ?_) (a' := ?_) #[true, true, true, true, true, true, true, false, false, false, false] rfl rfl (take_ofW HT_.out HW_.out (by kernel_rfl)) (fun c_ a_ w_ h_ => HPn.out _ _ c_ a_ w_ h_) (Or.inl ⟨by rfl, ?_⟩) hHeld ?_ ?_
 rotate_left
 ·rintro w' ⟨s0, s1, s2, s3, s4, s5⟩
  go_simp
  with_reducible rfl
 rotate_left
 ·simp only [Act.put, List.setIfInBounds_toArray, List.set_cons_zero, List.set_cons_succ, i64_w, i32_w]
  rfl
 refine one_ (i := 7) (N := some 125) #[true, true, true, true, true, true, true, true, false, false, false] rfl rfl (one_of HT_.out (by kernel_rfl)) (by decide) (fun Kk hK => ?_)
 refine goes_ Tryz.func20 (by kernel_rfl) rfl #[.agg #[.int .i64 K, .int .i64 D, .int .i64 C, .slice Ao P.length co, .string N, .string T]] (by rfl) rfl rfl (by (try simp only [List.map_toArray, List.map_cons, List.map_nil]); first | done | rfl | (simp only [List.length_drop, List.length_take]; rfl)) ?_
 with_reducible refine (spec_l10Call.calls k K D C Ao co P N T r _ ?side1 ?side2 HT.out).mono ?_
 (case side1 => exact (Kd.R_reads' HO.out).2.2)
 (case side2 => exact (Kd.R_reads' HO.out).2.1)
 rintro e w2 ⟨rfl, hb⟩
 refine ⟨_, rfl, ?_⟩
 have n1_ := Aside0.mk (Kd.R_below HO.out hb)
 have n2_ := Aside0.mk (blk_below (g := b2) BK2.out hb)
 have n3_ := Aside0.mk (blk_below (g := b4) BK4.out hb)
 have n4_ := Aside0.mk (below_step HB.out hb)
 clear HO BK2 BK4 HB
 have HO := n1_
 have BK2 := n2_
 have BK4 := n3_
 have HB := n4_
 clear n1_ n2_ n3_ n4_ hb
 refine hK.out _ _ ⟨(blk_cell BK4.out 0).trans rfl, (blk_cell BK4.out 1).trans rfl, (blk_cell BK4.out 2).trans rfl, (blk_cell BK4.out 3).trans rfl, (blk_cell BK4.out 4).trans rfl, (blk_cell BK4.out 5).trans rfl⟩ (fun hHeld => ?_)
 clear hK Kk
 refine norm_ (a' := ?_) ?_ ?_
 rotate_left
 ·show Act.put _ (some 125) _ = _
  simp only [Act.put, List.setIfInBounds_toArray, List.set_cons_zero, List.set_cons_succ, i64_w, i32_w]
  rfl
 refine pure_ (i := 8) (N := some 126) (v := ?_) (a' := ?_) #[true, true, true, true, true, true, true, true, true, false, false] rfl rfl (any_of HT_.out (by kernel_rfl)) (fun c_ a_ w_ h_ => HPn.out _ _ c_ a_ w_ h_) (Or.inl ⟨by rfl, ?_⟩) ?_ ?_
 rotate_left
 ·intro w'
  go_simp
  with_reducible rfl
 rotate_left
 ·simp only [Act.put, List.setIfInBounds_toArray, List.set_cons_zero, List.set_cons_succ, i64_w, i32_w]
  rfl
 refine one_ (i := 9) (N := none) #[true, true, true, true, true, true, true, true, true, true, false] rfl rfl (one_of HT_.out (by kernel_rfl)) (by decide) (fun Kk hK => ?_)
 have hs0 : w2.cell? ⟨b2, 0, none⟩ = some c0 := (blk_cell BK2.out 0).trans rfl
 have hfs0 := blk_frozen BK2.out 0
 have hs1 : w2.cell? ⟨b2, 1, none⟩ = some c1 := (blk_cell BK2.out 1).trans rfl
 have hfs1 := blk_frozen BK2.out 1
 have hs2 : w2.cell? ⟨b2, 2, none⟩ = some c2 := (blk_cell BK2.out 2).trans rfl
 have hfs2 := blk_frozen BK2.out 2
 have hs3 : w2.cell? ⟨b2, 3, none⟩ = some c3 := (blk_cell BK2.out 3).trans rfl
 have hfs3 := blk_frozen BK2.out 3
 have hs4 : w2.cell? ⟨b2, 4, none⟩ = some c4 := (blk_cell BK2.out 4).trans rfl
 have hfs4 := blk_frozen BK2.out 4
 have hs5 : w2.cell? ⟨b2, 5, none⟩ = some c5 := (blk_cell BK2.out 5).trans rfl
 have hfs5 := blk_frozen BK2.out 5
 have hne1 := HN.out
 have hne2 := HN.out.symm
 refine skip_ (w1 := ?_) (by rfl) rfl ?_ ?_
 rotate_left
 ·go_simp
  rfl
 have HB9 := Aside0.mk (show Below w0.heap.size w0 ((((((w2.setCell ⟨b2, 0, none⟩ (.int .i64 K)).setCell ⟨b2, 1, none⟩ (.int .i64 D)).setCell ⟨b2, 2, none⟩ (.int .i64 C)).setCell ⟨b2, 3, none⟩ (.slice Ao P.length co)).setCell ⟨b2, 4, none⟩ (.string N)).setCell ⟨b2, 5, none⟩ (.string T)) from by repeat (first | exact HB.out | refine below_set ?_ HB2.out))
 have HO9 := Aside0.mk (show Kd.R (Kd.int .i64) 3 ((((((w2.setCell ⟨b2, 0, none⟩ (.int .i64 K)).setCell ⟨b2, 1, none⟩ (.int .i64 D)).setCell ⟨b2, 2, none⟩ (.int .i64 C)).setCell ⟨b2, 3, none⟩ (.slice Ao P.length co)).setCell ⟨b2, 4, none⟩ (.string N)).setCell ⟨b2, 5, none⟩ (.string T)) w0.heap.size (fun _ => True) (.slice Ao P.length co) P from Kd.R_mono (Kd.R_far (p := ⟨b2, 5, none⟩) (Kd.R_far (p := ⟨b2, 4, none⟩) (Kd.R_far (p := ⟨b2, 3, none⟩) (Kd.R_far (p := ⟨b2, 2, none⟩) (Kd.R_far (p := ⟨b2, 1, none⟩) (Kd.R_far (p := ⟨b2, 0, none⟩) (Kd.R_types HO.out BK2.out (by decide)) (fun _ hk => hk.2) _) (fun _ hk => hk.2) _) (fun _ hk => hk.2) _) (fun _ hk => hk.2) _) (fun _ hk => hk.2) _) (fun _ hk => hk.2) _) (fun _ hk => trivial))
 have BK9 := Aside0.mk (six_put BK2.out (.int .i64 K) (.int .i64 D) (.int .i64 C) (.slice Ao P.length co) (.string N) (.string T))
 have BK49 := Aside0.mk ((six_far (g := b2) HN.out (.int .i64 K) (.int .i64 D) (.int .i64 C) (.slice Ao P.length co) (.string N) (.string T)).trans BK4.out)
 have hS9 : (fun w' : World => w'.cell? ⟨b4, 0, none⟩ = some (.int .i64 K) ∧ w'.cell? ⟨b4, 1, none⟩ = some (.int .i64 D) ∧ w'.cell? ⟨b4, 2, none⟩ = some (.int .i64 C) ∧ w'.cell? ⟨b4, 3, none⟩ = some (.slice Ao P.length co) ∧ w'.cell? ⟨b4, 4, none⟩ = some (.string N) ∧ w'.cell? ⟨b4, 5, none⟩ = some (.string T)) ((((((w2.setCell ⟨b2, 0, none⟩ (.int .i64 K)).setCell ⟨b2, 1, none⟩ (.int .i64 D)).setCell ⟨b2, 2, none⟩ (.int .i64 C)).setCell ⟨b2, 3, none⟩ (.slice Ao P.length co)).setCell ⟨b2, 4, none⟩ (.string N)).setCell ⟨b2, 5, none⟩ (.string T)) := ⟨(blk_cell BK49.out 0).trans rfl, (blk_cell BK49.out 1).trans rfl, (blk_cell BK49.out 2).trans rfl, (blk_cell BK49.out 3).trans rfl, (blk_cell BK49.out 4).trans rfl, (blk_cell BK49.out 5).trans rfl⟩
 refine hK.out _ _ hS9 (fun hHeld => ?_)
 clear hK
 refine pure_ (i := 10) (N := some 3) (v := ?_) (a' := ?_) #[true, true, true, true, true, true, true, true, true, true, true] rfl rfl (any_of HT_.out (by kernel_rfl)) (fun c_ a_ w_ h_ => HPn.out _ _ c_ a_ w_ h_) (Or.inl ⟨by rfl, ?_⟩) ?_ ?_
 rotate_left
 ·intro w'
  go_simp
  with_reducible rfl
 rotate_left
 ·simp only [Act.put, List.setIfInBounds_toArray, List.set_cons_zero, List.set_cons_succ, i64_w, i32_w]
  rfl
 refine done_ (done_of HT_.out (by kernel_rfl)) ?_
 exact HQ.out _ _ _ _ _ _ _ _ _ _ BK9.out HO9.out HB9.out
end Go.Proofs.YtfjnlliilnmfaaaGreatDoor.RC
end
