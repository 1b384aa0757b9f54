/-
  WRITTEN BY wip/tools/prune.py out of this claim's texts: the declarations that the theorem comes to, and no others. In it: Re.
-/
import Derived.Test.YtfjnlliilnmfaaaGreatDoorC9
section
set_option linter.unusedVariables false
set_option linter.unusedSimpArgs false
namespace Go.Proofs.YtfjnlliilnmfaaaGreatDoor.RC
open Go.RowKit Go.Proofs.YtfjnlliilnmfaaaGreatDoorW.PrintWords Go.Proofs.YtfjnlliilnmfaaaGreatDoorW.PrintLast Go.Proofs.YtfjnlliilnmfaaaGreatDoorW.PrintMore Go.Proofs.YtfjnlliilnmfaaaGreatDoor.Given Go.Proofs.YtfjnlliilnmfaaaGreatDoor.PRCa
attribute [local go_sem] max2_int min2_int max_two min_two max_three min_three max_four min_four
set_option maxHeartbeats 8000000 in
set_option maxRecDepth 100000 in
theorem spec_l12ReadCall.calls (k : Nat) (a0 : ByteArray) (r1 : Int) (r2 : Int) (r3 : Int) (r4 : List Int) (r5 : ByteArray) (r6 : ByteArray) (r7 : Bool) (w : World) (h : spec_l12ReadCall.f k a0 = some (r1, r2, r3, r4, r5, r6, r7)) :
  Calls Tryz.prog 9 #[.string a0] w fun e w' => ∃ v3_ : Value, e = .returned (.tuple #[.agg #[.int .i64 r1, .int .i64 r2, .int .i64 r3, v3_, .string r5, .string r6], .bool r7]) ∧ Kd.R (Kd.int .i64) 3 w' w.heap.size (fun _ => True) v3_ r4 ∧ Below w.heap.size w w' := by
 have hu24 := Tryz.underlying24
 have HB := Aside0.mk (Below.refl w.heap.size w)
 have H : (spec_l12ReadCall.l0 k a0 0 0 0 0 (([] : List Int)) (⟨#[]⟩ : ByteArray) (⟨#[]⟩ : ByteArray)) = some (r1, r2, r3, r4, r5, r6, r7) := h
 clear h
 obtain ⟨y167, hy167⟩ : ∃ y_ : List Int, y_ = (([] : List Int)) := ⟨_, rfl⟩
 replace H : (spec_l12ReadCall.l0 k a0 0 0 0 0 y167 (⟨#[]⟩ : ByteArray) (⟨#[]⟩ : ByteArray)) = some (r1, r2, r3, r4, r5, r6, r7) := by first | (rw [hy167]; with_reducible exact H) | (have H2_ := (Option.bind_some _ _).symm.trans H; rw [hy167]; with_reducible exact H2_) | (have H2_ := (Option.bind_some _ _).symm.trans H; with_reducible exact H2_) | with_reducible exact H | (rw [hy167]; exact H) | exact H
 have Ny167 := Aside0.mk hy167
 clear hy167
 have H' := Aside0.mk H
 clear H
 go_enter Tryz.func9, Tryz.ntmps9
 go_wp2_with (first | ((with_reducible refine gate_dst (N := 2) rfl ?_); refine box_event ?hg (N := 2) ?hd (cs := #[.int .i64 0, .int .i64 0, .int .i64 0, .slice none 0 0, .string (⟨#[]⟩ : ByteArray), .string (⟨#[]⟩ : ByteArray)]) (t := 24) ?hr ?_; (case hd => rfl); (case hg => rfl); (case hr => first | (go_simp; done) | (go_simp; rfl)); intro gb166 hg w2 hbox hb; have n0_ := Aside0.mk (below_step (by exact Sq.bl HB.out) hb); have n1_ := Aside0.mk (hbox); have n2_ := Aside0.mk ((by rw [hg]; exact (below_size (by exact Sq.bl HB.out)) : w.heap.size ≤ gb166)); have n3_ := Aside0.mk ((by rw [hg]; exact (below_size (by exact Sq.bl HB.out)) : w.heap.size ≤ gb166)); clear HB; have HB := n0_; have BK166 := n1_; have GW166 := n2_; have GE166 := n3_; clear n0_ n1_ n2_ n3_; clear hb hbox hg) | ((with_reducible refine gate_dst (N := 14) rfl ?_); refine Kd.R_lit (Kd.int .i64) _ 3 ?hg (N := 14) ?hd (xs := ([] : List Int)) (inner := []) (ok := fun _ => True) (okp := fun _ => True) ?hr ?hp (fun _ hk => hk) trivial (Below.refl _ _) (Nat.le_refl _) (by simp) ?_; (case hd => rfl); (case hg => rfl); (case hr => first | (go_simp; done) | (go_simp; rfl)); (case hp => exact (Reps.none _ _)); intro v168 w3 ho4 hb hg_ hnew_; clear hg_ hnew_; (first | rw [← Ny167.out] at ho4 | (simp only [Int.reduceToNat] at ho4; rw [← Ny167.out] at ho4)); have n0_ := Aside0.mk (Kd.R_lower ho4 (below_size (by repeat (first | (with_reducible first | exact HB.out | apply below_alloc | apply pw_below_drewN | apply below_drew1 | refine below_set ?_ GE166.out) | exact HB.out)))); have n1_ := Aside0.mk (blk_below (g := gb166) (o := .cells #[.int .i64 0, .int .i64 0, .int .i64 0, .slice none 0 0, .string (⟨#[]⟩ : ByteArray), .string (⟨#[]⟩ : ByteArray)] 24 (0, 0)) (by exact Sq.bk BK166.out) hb); have n2_ := Aside0.mk (below_step (by repeat (first | (with_reducible first | exact HB.out | apply below_alloc | apply pw_below_drewN | apply below_drew1 | refine below_set ?_ GE166.out) | exact HB.out)) hb); clear BK166; clear HB; have HO169 := n0_; have BK166 := n1_; have HB := n2_; clear n0_ n1_ n2_; clear hb ho4; obtain ⟨Ao5, co5, eo5⟩ := Kd.R_slice HO169.out; subst eo5) | ((with_reducible refine gate_dst (N := 4) rfl ?_); refine box_event ?hg (N := 4) ?hd (cs := #[.int .i64 0, .int .i64 0, .int .i64 0, .slice none 0 0, .string (⟨#[]⟩ : ByteArray), .string (⟨#[]⟩ : ByteArray)]) (t := 24) ?hr ?_; (case hd => rfl); (case hg => rfl); (case hr => first | (go_simp; done) | (go_simp; rfl)); intro gb170 hg w6 hbox hb; have n0_ := Aside0.mk (Kd.R_below (by exact Sq.rk HO169.out) hb); have n1_ := Aside0.mk (blk_below (g := gb166) (o := .cells #[.int .i64 0, .int .i64 0, .int .i64 0, .slice none 0 0, .string (⟨#[]⟩ : ByteArray), .string (⟨#[]⟩ : ByteArray)] 24 (0, 0)) (by exact Sq.bk BK166.out) hb); have n2_ := Aside0.mk (below_step (by repeat (first | (with_reducible first | exact HB.out | apply below_alloc | apply pw_below_drewN | apply below_drew1 | refine below_set ?_ GE166.out) | exact HB.out)) hb); have n3_ := Aside0.mk (hbox); have n4_ := Aside0.mk ((by rw [hg]; exact (below_size (by repeat (first | (with_reducible first | exact HB.out | apply below_alloc | apply pw_below_drewN | apply below_drew1 | refine below_set ?_ GE166.out) | exact HB.out))) : w.heap.size ≤ gb170)); have n5_ := Aside0.mk ((by rw [hg]; exact (below_size (by repeat (first | (with_reducible first | exact HB.out | apply below_alloc | apply pw_below_drewN | apply below_drew1 | refine below_set ?_ GE166.out) | exact HB.out))) : w.heap.size ≤ gb170)); have n6_ := Aside0.mk ((by rw [hg]; exact Nat.ne_of_lt (blk_lt (g := gb166) (o := .cells #[.int .i64 0, .int .i64 0, .int .i64 0, .slice none 0 0, .string (⟨#[]⟩ : ByteArray), .string (⟨#[]⟩ : ByteArray)] 24 (0, 0)) (by exact Sq.bk BK166.out)) : gb166 ≠ gb170)); have n7_ := Aside0.mk ((by rw [hg]; exact Nat.ne_of_gt (blk_lt (g := gb166) (o := .cells #[.int .i64 0, .int .i64 0, .int .i64 0, .slice none 0 0, .string (⟨#[]⟩ : ByteArray), .string (⟨#[]⟩ : ByteArray)] 24 (0, 0)) (by exact Sq.bk BK166.out)) : gb170 ≠ gb166)); clear HO169; clear BK166; clear HB; have HO169 := n0_; have BK166 := n1_; have HB := n2_; have BK170 := n3_; have GW170 := n4_; have GE170 := n5_; have NB166_170 := n6_; have NB170_166 := n7_; clear n0_ n1_ n2_ n3_ n4_ n5_ n6_ n7_; clear hb hbox hg; have hnb7 := NB170_166.out; have hnc7 := NB166_170.out; obtain ⟨hcz8_0, hcz8_1, hcz8_2, hcz8_3, hcz8_4, hcz8_5⟩ := Sq.c6 BK170.out; have hfz8_0 := Sq.fz BK170.out))
 go_loopg [5] k (fun kq v5 w' => ∃ (x5_1 : Int) (x171000_1 : Int), v5 = .int .i64 x5_1 ∧ Aside0 (spec_l12ReadCall.l0 kq a0 x5_1 x171000_1 0 0 y167 (⟨#[]⟩ : ByteArray) (⟨#[]⟩ : ByteArray) = some (r1, r2, r3, r4, r5, r6, r7)) ∧ Aside0 (kq ≤ k) ∧ Aside0 (Kd.R (Kd.int .i64) 3 w' w.heap.size (fun _ => True) (.slice Ao5 y167.length co5) y167) ∧ Aside0 (w'.heap[gb166]? = some (.cells #[.int .i64 0, .int .i64 0, .int .i64 0, (.slice none 0 0), .string (⟨#[]⟩ : ByteArray), .string (⟨#[]⟩ : ByteArray)] 24 (0, 0))) ∧ Aside0 (w'.heap[gb170]? = some (.cells #[.int .i64 x171000_1, .int .i64 0, .int .i64 0, (.slice Ao5 y167.length co5), .string (⟨#[]⟩ : ByteArray), .string (⟨#[]⟩ : ByteArray)] 24 (0, 0))) ∧ Aside0 (Below w.heap.size w w'))
 case atStart => exact ⟨(0), (0), (by first | rfl | (simp; done) | (simp [*]; done) | (generalize ByteArray.toList _ = l_; cases l_ <;> rfl)), H', ⟨Nat.le_refl _⟩, ⟨by refine Sq.rk ?_; exact Kd.R_mono (Kd.R_far (p := ⟨gb170, 5, none⟩) (Kd.R_far (p := ⟨gb170, 4, none⟩) (Kd.R_far (p := ⟨gb170, 3, none⟩) (Kd.R_far (p := ⟨gb170, 2, none⟩) (Kd.R_far (p := ⟨gb170, 1, none⟩) (Kd.R_far (p := ⟨gb170, 0, none⟩) (Kd.R_types HO169.out BK170.out (by decide)) (fun _ hk => hk.2) (.int .i64 0)) (fun _ hk => hk.2) (.int .i64 0)) (fun _ hk => hk.2) (.int .i64 0)) (fun _ hk => hk.2) (.slice Ao5 y167.length co5)) (fun _ hk => hk.2) (.string (⟨#[]⟩ : ByteArray))) (fun _ hk => hk.2) (.string (⟨#[]⟩ : ByteArray))) (fun _ hk => trivial)⟩, ⟨by refine Sq.bk ?_; refine blk_far ?_ NB166_170.out _; refine Sq.bk ?_; refine blk_far ?_ NB166_170.out _; refine Sq.bk ?_; refine blk_far ?_ NB166_170.out _; refine Sq.bk ?_; refine blk_far ?_ NB166_170.out _; refine Sq.bk ?_; refine blk_far ?_ NB166_170.out _; refine Sq.bk ?_; refine blk_far ?_ NB166_170.out _; exact Sq.bk BK166.out⟩, ⟨by refine Sq.bk ?_; refine blk_put (cs := #[.int .i64 0, .int .i64 0, .int .i64 0, .slice Ao5 y167.length co5, .string (⟨#[]⟩ : ByteArray), .string (⟨#[]⟩ : ByteArray)]) ?_ 5 _ rfl; refine Sq.bk ?_; refine blk_put (cs := #[.int .i64 0, .int .i64 0, .int .i64 0, .slice Ao5 y167.length co5, .string (⟨#[]⟩ : ByteArray), .string (⟨#[]⟩ : ByteArray)]) ?_ 4 _ rfl; refine Sq.bk ?_; refine blk_put (cs := #[.int .i64 0, .int .i64 0, .int .i64 0, .slice none 0 0, .string (⟨#[]⟩ : ByteArray), .string (⟨#[]⟩ : ByteArray)]) ?_ 3 _ rfl; refine Sq.bk ?_; refine blk_put (cs := #[.int .i64 0, .int .i64 0, .int .i64 0, .slice none 0 0, .string (⟨#[]⟩ : ByteArray), .string (⟨#[]⟩ : ByteArray)]) ?_ 2 _ rfl; refine Sq.bk ?_; refine blk_put (cs := #[.int .i64 0, .int .i64 0, .int .i64 0, .slice none 0 0, .string (⟨#[]⟩ : ByteArray), .string (⟨#[]⟩ : ByteArray)]) ?_ 1 _ rfl; refine Sq.bk ?_; refine blk_put (cs := #[.int .i64 0, .int .i64 0, .int .i64 0, .slice none 0 0, .string (⟨#[]⟩ : ByteArray), .string (⟨#[]⟩ : ByteArray)]) ?_ 0 _ rfl; exact Sq.bk BK170.out⟩, ⟨by repeat (first | (with_reducible first | exact HB.out | apply below_alloc | apply pw_below_drewN | apply below_drew1 | refine below_set ?_ GE166.out | refine below_set ?_ GE170.out) | exact HB.out)⟩⟩
 case round =>
  clear H'
  try clear p2
  try clear c7
  try clear hcz8_0
  try clear hcz8_1
  try clear hcz8_2
  try clear hcz8_3
  try clear hcz8_4
  try clear hcz8_5
  try clear hfz8_0
  obtain ⟨x5_1, x171000_1, rfl, HA, HK1, HO_171003, BK166, BK170, HB⟩ := hrel
  cases gk with
  | zero => exact absurd HA.out (by simp [spec_l12ReadCall.l0])
  | succ k1 =>
   have H := HA.out
   clear HA
   simp only [spec_l12ReadCall.l0] at H
   by_cases c9 : x5_1 < 9
   ·rw [if_pos c9] at H
    have c9b0 : decide (x5_1 < 9) = true := decide_eq_true c9
    clear c9
    replace H := Option.bind_eq_some_iff.mp H
    obtain ⟨t171, A100, H⟩ := H
    try dsimp -failIfUnchanged -simprocs only at H
    have A10 := Aside0.mk A100
    have e171_ : t171 = W9 := (Option.some.inj (W9_is.symm.trans A10.out)).symm
    subst e171_
    clear A100
    by_cases c11 : 0 ≤ x5_1
    ·rw [if_pos c11] at H
     have c11b0 : decide (0 ≤ x5_1) = true := decide_eq_true c11
     clear c11
     by_cases c12 : x5_1 < (W9.length : Int)
     ·rw [if_pos c12] at H
      have c12b0 : decide (x5_1 < (W9.length : Int)) = true := decide_eq_true c12
      clear c12
      by_cases c13 : (a0.size : Int) > ((rdOf ByteArray.empty W9 x5_1).size : Int)
      ·rw [if_pos c13] at H
       have c13b0 : decide (((rdOf ByteArray.empty W9 x5_1).size : Int) < (a0.size : Int)) = true := decide_eq_true c13
       have c13b1 : decide ((rdOf ByteArray.empty W9 x5_1).size < a0.size) = true := decide_eq_true (Int.ofNat_lt.mp c13)
       clear c13
       by_cases c14 : 0 ≤ ((rdOf ByteArray.empty W9 x5_1).size : Int)
       ·rw [if_pos c14] at H
        have c14b0 := eq_true c14
        have c14b1 : decide (0 ≤ ((rdOf ByteArray.empty W9 x5_1).size : Int)) = true := decide_eq_true c14
        clear c14
        by_cases c15 : ((rdOf ByteArray.empty W9 x5_1).size : Int) ≤ (a0.size : Int)
        ·rw [if_pos c15] at H
         have c15b0 := eq_true c15
         have c15b1 : decide (((rdOf ByteArray.empty W9 x5_1).size : Int) ≤ (a0.size : Int)) = true := decide_eq_true c15
         clear c15
         replace H := Option.bind_eq_some_iff.mp H
         obtain ⟨t175, A160, H⟩ := H
         try dsimp -failIfUnchanged -simprocs only at H
         have A16 := Aside0.mk A160
         have e175_ : t175 = W9 := (Option.some.inj (W9_is.symm.trans A16.out)).symm
         subst e175_
         clear A160
         by_cases c17 : x5_1 < (W9.length : Int)
         ·rw [if_pos c17] at H
          have c17b0 : decide (x5_1 < (W9.length : Int)) = true := decide_eq_true c17
          clear c17
          by_cases c18 : (a0.extract 0 (((rdOf ByteArray.empty W9 x5_1).size : Int) : Int).toNat).toList = (rdOf ByteArray.empty W9 x5_1).toList
          ·rw [if_pos c18] at H
           have c18b0 : ((a0.extract 0 (((rdOf ByteArray.empty W9 x5_1).size : Int) : Int).toNat).toList == (rdOf ByteArray.empty W9 x5_1).toList) = true := beq_iff_eq.mpr c18
           have c18b1 : ((a0.extract 0 (((rdOf ByteArray.empty W9 x5_1).size : Int) : Int).toNat).toList != (rdOf ByteArray.empty W9 x5_1).toList) = false := bne_eq_false_iff_eq.mpr c18
           clear c18
           by_cases c19 : ((rdOf ByteArray.empty W9 x5_1).size : Int) < (a0.size : Int)
           ·rw [if_pos c19] at H
            have c19b0 : decide (((rdOf ByteArray.empty W9 x5_1).size : Int) < (a0.size : Int)) = true := decide_eq_true c19
            have c19b1 : decide ((rdOf ByteArray.empty W9 x5_1).size < a0.size) = true := decide_eq_true (Int.ofNat_lt.mp c19)
            clear c19
            by_cases c21 : (bt a0 ((rdOf ByteArray.empty W9 x5_1).size : Int)) = 32
            ·rw [if_pos c21] at H
             have c21b0 : ((bt a0 ((rdOf ByteArray.empty W9 x5_1).size : Int)) == 32) = true := beq_iff_eq.mpr c21
             have c21b1 : ((bt a0 ((rdOf ByteArray.empty W9 x5_1).size : Int)) != 32) = false := bne_eq_false_iff_eq.mpr c21
             clear c21
             have H' := Aside0.mk H
             clear H
             try go_wp2_with (first | ((with_reducible refine gate_callee (f := 15) rfl ?_); refine Sq.goM (some 20) Tryz.func15 #[] ?_; (with_reducible refine (spec_l12Calls.calls  W9 _ A10.out).mono ?_); rintro e w22 ⟨v172, rfl, ho0, hb⟩; refine ⟨_, rfl, ?_⟩; have n0_ := Aside0.mk (Kd.R_below (by exact Sq.rk HO_171003.out) hb); have n1_ := Aside0.mk (Kd.R_lower ho0 (below_size (by repeat (first | (with_reducible first | exact HB.out | apply below_alloc | apply pw_below_drewN | apply below_drew1 | refine below_set ?_ GE166.out | refine below_set ?_ GE170.out) | exact HB.out)))); have n2_ := Aside0.mk (blk_below (g := gb166) (o := .cells #[.int .i64 0, .int .i64 0, .int .i64 0, .slice none 0 0, .string (⟨#[]⟩ : ByteArray), .string (⟨#[]⟩ : ByteArray)] 24 (0, 0)) (by exact Sq.bk BK166.out) hb); have n3_ := Aside0.mk (blk_below (g := gb170) (o := .cells #[.int .i64 x171000_1, .int .i64 0, .int .i64 0, .slice Ao5 y167.length co5, .string (⟨#[]⟩ : ByteArray), .string (⟨#[]⟩ : ByteArray)] 24 (0, 0)) (by exact Sq.bk BK170.out) hb); have n4_ := Aside0.mk (below_step (by repeat (first | (with_reducible first | exact HB.out | apply below_alloc | apply pw_below_drewN | apply below_drew1 | refine below_set ?_ GE166.out | refine below_set ?_ GE170.out) | exact HB.out)) hb); clear HO_171003; clear BK166; clear BK170; clear HB; have HO_171003 := n0_; have HO173 := n1_; have BK166 := n2_; have BK170 := n3_; have HB := n4_; clear n0_ n1_ n2_ n3_ n4_; (try clear hb); (try clear hb2); (try clear hk); (try clear hi); (try clear ho0); obtain ⟨Ao23, co23, eo23⟩ := Kd.R_slice HO173.out; subst eo23; have p174 : 0 ≤ (x5_1 : Int) := of_decide_eq_true (by first | (with_reducible assumption) | assumption); have q174 : x5_1 < (W9.length : Int) := of_decide_eq_true (by first | (with_reducible assumption) | assumption); obtain ⟨ad174, e174, hx174_0⟩ := Kd.at_string (Kd.R_reads' HO173.out).2.2 x5_1 p174 q174; cases e174; replace p174 := eq_true p174; replace q174 := eq_true q174))
             have hh_ : hit a0 (rdOf ByteArray.empty W9 x5_1) = true := (by unfold hit; rw [c13b1]; simp only [Int.toNat_natCast] at c18b0; rw [c18b0, c21b0]; rfl)
             refine reg6 (t := a0) (i := x5_1) (of_decide_eq_true c11b0) (of_decide_eq_true c9b0) (fun _ _ _ _ _ h => h) ?_
             intro z25_ z26_ z27_ z28_ z29_ z30_ z31_ z32_ z33_ z34_ z35_ z36_ z37_ z38_ z39_ z40_ z41_ z42_ z43_ w25 hz_
             rw [hh_]
             clear hh_
             have m0_ := Aside0.mk (Kd.R_below HO_171003.out hz_)
             have m1_ := Aside0.mk (blk_below (g := gb166) BK166.out hz_)
             have m2_ := Aside0.mk (blk_below (g := gb170) BK170.out hz_)
             have m3_ := Aside0.mk (below_step HB.out hz_)
             clear HO_171003 BK166 BK170 HB hz_
             have HO_171003 := m0_
             have BK166 := m1_
             have BK170 := m2_
             have HB := m3_
             clear m0_ m1_ m2_ m3_
             have hnb27 := NB170_166.out
             have hnc27 := NB166_170.out
             obtain ⟨hcz28_0, hcz28_1, hcz28_2, hcz28_3, hcz28_4, hcz28_5⟩ := Sq.c6 BK170.out
             have hfz28_0 := Sq.fz BK170.out
             try go_wp2
             go_roundg k1
             case measure => have := HK1.out; omega
             case rel => exact ⟨(wrap64 (x5_1 + 1)), (wrap64 (x5_1 + 1)), (by first | rfl | (simp; done) | (simp [*]; done) | (generalize ByteArray.toList _ = l_; cases l_ <;> rfl)), H', ⟨by have := HK1.out; omega⟩, ⟨by refine Sq.rk ?_; exact Kd.R_mono (Kd.R_far (p := ⟨gb170, 0, none⟩) (Kd.R_types HO_171003.out BK170.out (by decide)) (fun _ hk => hk.2) (.int .i64 (wrap64 (x5_1 + 1)))) (fun _ hk => trivial)⟩, ⟨by refine Sq.bk ?_; refine blk_far ?_ NB166_170.out _; exact Sq.bk BK166.out⟩, ⟨by refine Sq.bk ?_; refine blk_put (cs := #[.int .i64 x171000_1, .int .i64 0, .int .i64 0, .slice Ao5 y167.length co5, .string (⟨#[]⟩ : ByteArray), .string (⟨#[]⟩ : ByteArray)]) ?_ 0 _ rfl; exact Sq.bk BK170.out⟩, ⟨by repeat (first | (with_reducible first | exact HB.out | apply below_alloc | apply pw_below_drewN | apply below_drew1 | refine below_set ?_ GE166.out | refine below_set ?_ GE170.out) | exact HB.out)⟩⟩
            ·rw [if_neg c21] at H
             have c21b0 : ((bt a0 ((rdOf ByteArray.empty W9 x5_1).size : Int)) == 32) = false := beq_eq_false_iff_ne.mpr c21
             have c21b1 : ((bt a0 ((rdOf ByteArray.empty W9 x5_1).size : Int)) != 32) = true := bne_iff_ne.mpr c21
             have H' := Aside0.mk H
             clear H
             try go_wp2_with (first | ((with_reducible refine gate_callee (f := 15) rfl ?_); refine Sq.goM (some 20) Tryz.func15 #[] ?_; (with_reducible refine (spec_l12Calls.calls  W9 _ A10.out).mono ?_); rintro e w29 ⟨v172, rfl, ho0, hb⟩; refine ⟨_, rfl, ?_⟩; have n0_ := Aside0.mk (Kd.R_below (by exact Sq.rk HO_171003.out) hb); have n1_ := Aside0.mk (Kd.R_lower ho0 (below_size (by repeat (first | (with_reducible first | exact HB.out | apply below_alloc | apply pw_below_drewN | apply below_drew1 | refine below_set ?_ GE166.out | refine below_set ?_ GE170.out) | exact HB.out)))); have n2_ := Aside0.mk (blk_below (g := gb166) (o := .cells #[.int .i64 0, .int .i64 0, .int .i64 0, .slice none 0 0, .string (⟨#[]⟩ : ByteArray), .string (⟨#[]⟩ : ByteArray)] 24 (0, 0)) (by exact Sq.bk BK166.out) hb); have n3_ := Aside0.mk (blk_below (g := gb170) (o := .cells #[.int .i64 x171000_1, .int .i64 0, .int .i64 0, .slice Ao5 y167.length co5, .string (⟨#[]⟩ : ByteArray), .string (⟨#[]⟩ : ByteArray)] 24 (0, 0)) (by exact Sq.bk BK170.out) hb); have n4_ := Aside0.mk (below_step (by repeat (first | (with_reducible first | exact HB.out | apply below_alloc | apply pw_below_drewN | apply below_drew1 | refine below_set ?_ GE166.out | refine below_set ?_ GE170.out) | exact HB.out)) hb); clear HO_171003; clear BK166; clear BK170; clear HB; have HO_171003 := n0_; have HO173 := n1_; have BK166 := n2_; have BK170 := n3_; have HB := n4_; clear n0_ n1_ n2_ n3_ n4_; (try clear hb); (try clear hb2); (try clear hk); (try clear hi); (try clear ho0); obtain ⟨Ao30, co30, eo30⟩ := Kd.R_slice HO173.out; subst eo30; have p174 : 0 ≤ (x5_1 : Int) := of_decide_eq_true (by first | (with_reducible assumption) | assumption); have q174 : x5_1 < (W9.length : Int) := of_decide_eq_true (by first | (with_reducible assumption) | assumption); obtain ⟨ad174, e174, hx174_0⟩ := Kd.at_string (Kd.R_reads' HO173.out).2.2 x5_1 p174 q174; cases e174; replace p174 := eq_true p174; replace q174 := eq_true q174))
             have hh_ : hit a0 (rdOf ByteArray.empty W9 x5_1) = false := (by unfold hit; rw [c13b1]; simp only [Int.toNat_natCast] at c18b0; rw [c18b0, c21b0]; rfl)
             refine reg6 (t := a0) (i := x5_1) (of_decide_eq_true c11b0) (of_decide_eq_true c9b0) (fun _ _ _ _ _ h => h) ?_
             intro z25_ z26_ z27_ z28_ z29_ z30_ z31_ z32_ z33_ z34_ z35_ z36_ z37_ z38_ z39_ z40_ z41_ z42_ z43_ w32 hz_
             rw [hh_]
             clear hh_
             have m0_ := Aside0.mk (Kd.R_below HO_171003.out hz_)
             have m1_ := Aside0.mk (blk_below (g := gb166) BK166.out hz_)
             have m2_ := Aside0.mk (blk_below (g := gb170) BK170.out hz_)
             have m3_ := Aside0.mk (below_step HB.out hz_)
             clear HO_171003 BK166 BK170 HB hz_
             have HO_171003 := m0_
             have BK166 := m1_
             have BK170 := m2_
             have HB := m3_
             clear m0_ m1_ m2_ m3_
             try go_wp2
             go_roundg k1
             case measure => have := HK1.out; omega
             case rel => exact ⟨(wrap64 (x5_1 + 1)), (x171000_1), (by first | rfl | (simp; done) | (simp [*]; done) | (generalize ByteArray.toList _ = l_; cases l_ <;> rfl)), H', ⟨by have := HK1.out; omega⟩, ⟨by exact Sq.rk HO_171003.out⟩, ⟨by exact Sq.bk BK166.out⟩, ⟨by exact Sq.bk BK170.out⟩, ⟨by repeat (first | (with_reducible first | exact HB.out | apply below_alloc | apply pw_below_drewN | apply below_drew1 | refine below_set ?_ GE166.out | refine below_set ?_ GE170.out) | exact HB.out)⟩⟩
           ·rw [if_neg c19] at H
            exact absurd H (by simp)
          ·rw [if_neg c18] at H
           have c18b0 : ((a0.extract 0 (((rdOf ByteArray.empty W9 x5_1).size : Int) : Int).toNat).toList == (rdOf ByteArray.empty W9 x5_1).toList) = false := beq_eq_false_iff_ne.mpr c18
           have c18b1 : ((a0.extract 0 (((rdOf ByteArray.empty W9 x5_1).size : Int) : Int).toNat).toList != (rdOf ByteArray.empty W9 x5_1).toList) = true := bne_iff_ne.mpr c18
           have H' := Aside0.mk H
           clear H
           try go_wp2_with (first | ((with_reducible refine gate_callee (f := 15) rfl ?_); refine Sq.goM (some 20) Tryz.func15 #[] ?_; (with_reducible refine (spec_l12Calls.calls  W9 _ A10.out).mono ?_); rintro e w34 ⟨v172, rfl, ho0, hb⟩; refine ⟨_, rfl, ?_⟩; have n0_ := Aside0.mk (Kd.R_below (by exact Sq.rk HO_171003.out) hb); have n1_ := Aside0.mk (Kd.R_lower ho0 (below_size (by repeat (first | (with_reducible first | exact HB.out | apply below_alloc | apply pw_below_drewN | apply below_drew1 | refine below_set ?_ GE166.out | refine below_set ?_ GE170.out) | exact HB.out)))); have n2_ := Aside0.mk (blk_below (g := gb166) (o := .cells #[.int .i64 0, .int .i64 0, .int .i64 0, .slice none 0 0, .string (⟨#[]⟩ : ByteArray), .string (⟨#[]⟩ : ByteArray)] 24 (0, 0)) (by exact Sq.bk BK166.out) hb); have n3_ := Aside0.mk (blk_below (g := gb170) (o := .cells #[.int .i64 x171000_1, .int .i64 0, .int .i64 0, .slice Ao5 y167.length co5, .string (⟨#[]⟩ : ByteArray), .string (⟨#[]⟩ : ByteArray)] 24 (0, 0)) (by exact Sq.bk BK170.out) hb); have n4_ := Aside0.mk (below_step (by repeat (first | (with_reducible first | exact HB.out | apply below_alloc | apply pw_below_drewN | apply below_drew1 | refine below_set ?_ GE166.out | refine below_set ?_ GE170.out) | exact HB.out)) hb); clear HO_171003; clear BK166; clear BK170; clear HB; have HO_171003 := n0_; have HO173 := n1_; have BK166 := n2_; have BK170 := n3_; have HB := n4_; clear n0_ n1_ n2_ n3_ n4_; (try clear hb); (try clear hb2); (try clear hk); (try clear hi); (try clear ho0); obtain ⟨Ao35, co35, eo35⟩ := Kd.R_slice HO173.out; subst eo35; have p174 : 0 ≤ (x5_1 : Int) := of_decide_eq_true (by first | (with_reducible assumption) | assumption); have q174 : x5_1 < (W9.length : Int) := of_decide_eq_true (by first | (with_reducible assumption) | assumption); obtain ⟨ad174, e174, hx174_0⟩ := Kd.at_string (Kd.R_reads' HO173.out).2.2 x5_1 p174 q174; cases e174; replace p174 := eq_true p174; replace q174 := eq_true q174))
           have hh_ : hit a0 (rdOf ByteArray.empty W9 x5_1) = false := (by unfold hit; rw [c13b1]; simp only [Int.toNat_natCast] at c18b0; rw [c18b0]; rfl)
           refine reg6 (t := a0) (i := x5_1) (of_decide_eq_true c11b0) (of_decide_eq_true c9b0) (fun _ _ _ _ _ h => h) ?_
           intro z25_ z26_ z27_ z28_ z29_ z30_ z31_ z32_ z33_ z34_ z35_ z36_ z37_ z38_ z39_ z40_ z41_ z42_ z43_ w37 hz_
           rw [hh_]
           clear hh_
           have m0_ := Aside0.mk (Kd.R_below HO_171003.out hz_)
           have m1_ := Aside0.mk (blk_below (g := gb166) BK166.out hz_)
           have m2_ := Aside0.mk (blk_below (g := gb170) BK170.out hz_)
           have m3_ := Aside0.mk (below_step HB.out hz_)
           clear HO_171003 BK166 BK170 HB hz_
           have HO_171003 := m0_
           have BK166 := m1_
           have BK170 := m2_
           have HB := m3_
           clear m0_ m1_ m2_ m3_
           try go_wp2
           go_roundg k1
           case measure => have := HK1.out; omega
           case rel => exact ⟨(wrap64 (x5_1 + 1)), (x171000_1), (by first | rfl | (simp; done) | (simp [*]; done) | (generalize ByteArray.toList _ = l_; cases l_ <;> rfl)), H', ⟨by have := HK1.out; omega⟩, ⟨by exact Sq.rk HO_171003.out⟩, ⟨by exact Sq.bk BK166.out⟩, ⟨by exact Sq.bk BK170.out⟩, ⟨by repeat (first | (with_reducible first | exact HB.out | apply below_alloc | apply pw_below_drewN | apply below_drew1 | refine below_set ?_ GE166.out | refine below_set ?_ GE170.out) | exact HB.out)⟩⟩
         ·rw [if_neg c17] at H
          exact absurd H (by simp)
        ·rw [if_neg c15] at H
         exact absurd H (by simp)
       ·rw [if_neg c14] at H
        exact absurd H (by simp)
      ·rw [if_neg c13] at H
       have c13b0 : decide (((rdOf ByteArray.empty W9 x5_1).size : Int) < (a0.size : Int)) = false := decide_eq_false c13
       have c13b1 : decide ((rdOf ByteArray.empty W9 x5_1).size < a0.size) = false := decide_eq_false (fun h => c13 (Int.ofNat_lt.mpr h))
       clear c13
       have H' := Aside0.mk H
       clear H
       try go_wp2_with (first | ((with_reducible refine gate_callee (f := 15) rfl ?_); refine Sq.goM (some 20) Tryz.func15 #[] ?_; (with_reducible refine (spec_l12Calls.calls  W9 _ A10.out).mono ?_); rintro e w39 ⟨v172, rfl, ho0, hb⟩; refine ⟨_, rfl, ?_⟩; have n0_ := Aside0.mk (Kd.R_below (by exact Sq.rk HO_171003.out) hb); have n1_ := Aside0.mk (Kd.R_lower ho0 (below_size (by repeat (first | (with_reducible first | exact HB.out | apply below_alloc | apply pw_below_drewN | apply below_drew1 | refine below_set ?_ GE166.out | refine below_set ?_ GE170.out) | exact HB.out)))); have n2_ := Aside0.mk (blk_below (g := gb166) (o := .cells #[.int .i64 0, .int .i64 0, .int .i64 0, .slice none 0 0, .string (⟨#[]⟩ : ByteArray), .string (⟨#[]⟩ : ByteArray)] 24 (0, 0)) (by exact Sq.bk BK166.out) hb); have n3_ := Aside0.mk (blk_below (g := gb170) (o := .cells #[.int .i64 x171000_1, .int .i64 0, .int .i64 0, .slice Ao5 y167.length co5, .string (⟨#[]⟩ : ByteArray), .string (⟨#[]⟩ : ByteArray)] 24 (0, 0)) (by exact Sq.bk BK170.out) hb); have n4_ := Aside0.mk (below_step (by repeat (first | (with_reducible first | exact HB.out | apply below_alloc | apply pw_below_drewN | apply below_drew1 | refine below_set ?_ GE166.out | refine below_set ?_ GE170.out) | exact HB.out)) hb); clear HO_171003; clear BK166; clear BK170; clear HB; have HO_171003 := n0_; have HO173 := n1_; have BK166 := n2_; have BK170 := n3_; have HB := n4_; clear n0_ n1_ n2_ n3_ n4_; (try clear hb); (try clear hb2); (try clear hk); (try clear hi); (try clear ho0); obtain ⟨Ao40, co40, eo40⟩ := Kd.R_slice HO173.out; subst eo40; have p174 : 0 ≤ (x5_1 : Int) := of_decide_eq_true (by first | (with_reducible assumption) | assumption); have q174 : x5_1 < (W9.length : Int) := of_decide_eq_true (by first | (with_reducible assumption) | assumption); obtain ⟨ad174, e174, hx174_0⟩ := Kd.at_string (Kd.R_reads' HO173.out).2.2 x5_1 p174 q174; cases e174; replace p174 := eq_true p174; replace q174 := eq_true q174))
       have hh_ : hit a0 (rdOf ByteArray.empty W9 x5_1) = false := (by unfold hit; rw [c13b1]; rfl)
       refine reg6 (t := a0) (i := x5_1) (of_decide_eq_true c11b0) (of_decide_eq_true c9b0) (fun _ _ _ _ _ h => h) ?_
       intro z25_ z26_ z27_ z28_ z29_ z30_ z31_ z32_ z33_ z34_ z35_ z36_ z37_ z38_ z39_ z40_ z41_ z42_ z43_ w41 hz_
       rw [hh_]
       clear hh_
       have m0_ := Aside0.mk (Kd.R_below HO_171003.out hz_)
       have m1_ := Aside0.mk (blk_below (g := gb166) BK166.out hz_)
       have m2_ := Aside0.mk (blk_below (g := gb170) BK170.out hz_)
       have m3_ := Aside0.mk (below_step HB.out hz_)
       clear HO_171003 BK166 BK170 HB hz_
       have HO_171003 := m0_
       have BK166 := m1_
       have BK170 := m2_
       have HB := m3_
       clear m0_ m1_ m2_ m3_
       try go_wp2
       go_roundg k1
       case measure => have := HK1.out; omega
       case rel => exact ⟨(wrap64 (x5_1 + 1)), (x171000_1), (by first | rfl | (simp; done) | (simp [*]; done) | (generalize ByteArray.toList _ = l_; cases l_ <;> rfl)), H', ⟨by have := HK1.out; omega⟩, ⟨by exact Sq.rk HO_171003.out⟩, ⟨by exact Sq.bk BK166.out⟩, ⟨by exact Sq.bk BK170.out⟩, ⟨by repeat (first | (with_reducible first | exact HB.out | apply below_alloc | apply pw_below_drewN | apply below_drew1 | refine below_set ?_ GE166.out | refine below_set ?_ GE170.out) | exact HB.out)⟩⟩
     ·rw [if_neg c12] at H
      exact absurd H (by simp)
    ·rw [if_neg c11] at H
     exact absurd H (by simp)
   ·rw [if_neg c9] at H
    have c9b0 : decide (x5_1 < 9) = false := decide_eq_false c9
    clear c9
    by_cases c42 : x171000_1 = 0
    ·rw [if_pos c42] at H
     have c42b0 : (x171000_1 == 0) = true := beq_iff_eq.mpr c42
     have c42b1 : (x171000_1 != 0) = false := bne_eq_false_iff_eq.mpr c42
     clear c42
     simp only [Option.some.injEq, Prod.mk.injEq] at H
     obtain ⟨rfl, rfl, rfl, rfl, rfl, rfl, rfl⟩ := H
     have hnb43 := NB170_166.out
     have hnc43 := NB166_170.out
     have hcz44_0 : wr.cell? ⟨gb170, 0, none⟩ = some (.int .i64 x171000_1) := (blk_cell BK170.out 0).trans rfl
     have hcz44_1 : wr.cell? ⟨gb170, 1, none⟩ = some (.int .i64 0) := (blk_cell BK170.out 1).trans rfl
     have hcz44_2 : wr.cell? ⟨gb170, 2, none⟩ = some (.int .i64 0) := (blk_cell BK170.out 2).trans rfl
     have hcz44_3 : wr.cell? ⟨gb170, 3, none⟩ = some (.slice Ao5 y167.length co5) := (blk_cell BK170.out 3).trans rfl
     have hcz44_4 : wr.cell? ⟨gb170, 4, none⟩ = some (.string (⟨#[]⟩ : ByteArray)) := (blk_cell BK170.out 4).trans rfl
     have hcz44_5 : wr.cell? ⟨gb170, 5, none⟩ = some (.string (⟨#[]⟩ : ByteArray)) := (blk_cell BK170.out 5).trans rfl
     have hcz45_0 : wr.cell? ⟨gb166, 0, none⟩ = some (.int .i64 0) := (blk_cell BK166.out 0).trans rfl
     have hcz45_1 : wr.cell? ⟨gb166, 1, none⟩ = some (.int .i64 0) := (blk_cell BK166.out 1).trans rfl
     have hcz45_2 : wr.cell? ⟨gb166, 2, none⟩ = some (.int .i64 0) := (blk_cell BK166.out 2).trans rfl
     have hcz45_3 : wr.cell? ⟨gb166, 3, none⟩ = some (.slice none 0 0) := (blk_cell BK166.out 3).trans rfl
     have hcz45_4 : wr.cell? ⟨gb166, 4, none⟩ = some (.string (⟨#[]⟩ : ByteArray)) := (blk_cell BK166.out 4).trans rfl
     have hcz45_5 : wr.cell? ⟨gb166, 5, none⟩ = some (.string (⟨#[]⟩ : ByteArray)) := (blk_cell BK166.out 5).trans rfl
     have hfz44_0 := blk_frozen BK170.out 0
     have hfz44_1 := blk_frozen BK170.out 1
     have hfz44_2 := blk_frozen BK170.out 2
     have hfz44_3 := blk_frozen BK170.out 3
     have hfz44_4 := blk_frozen BK170.out 4
     have hfz44_5 := blk_frozen BK170.out 5
     have hfz45_0 := blk_frozen BK166.out 0
     have hfz45_1 := blk_frozen BK166.out 1
     have hfz45_2 := blk_frozen BK166.out 2
     have hfz45_3 := blk_frozen BK166.out 3
     have hfz45_4 := blk_frozen BK166.out 4
     have hfz45_5 := blk_frozen BK166.out 5
     go_wp2
     refine bodyPost_ret (results_ct rfl _ _ gb166 24 #[.int .i64 x171000_1, .int .i64 0, .int .i64 0, .slice Ao5 y167.length co5, .string (⟨#[]⟩ : ByteArray), .string (⟨#[]⟩ : ByteArray)] (0, 0) _ rfl (by refine Sq.bk ?_; refine blk_put (cs := #[.int .i64 x171000_1, .int .i64 0, .int .i64 0, .slice Ao5 y167.length co5, .string (⟨#[]⟩ : ByteArray), .string (⟨#[]⟩ : ByteArray)]) ?_ 5 _ rfl; refine Sq.bk ?_; refine blk_put (cs := #[.int .i64 x171000_1, .int .i64 0, .int .i64 0, .slice Ao5 y167.length co5, .string (⟨#[]⟩ : ByteArray), .string (⟨#[]⟩ : ByteArray)]) ?_ 4 _ rfl; refine Sq.bk ?_; refine blk_put (cs := #[.int .i64 x171000_1, .int .i64 0, .int .i64 0, .slice none 0 0, .string (⟨#[]⟩ : ByteArray), .string (⟨#[]⟩ : ByteArray)]) ?_ 3 _ rfl; refine Sq.bk ?_; refine blk_put (cs := #[.int .i64 x171000_1, .int .i64 0, .int .i64 0, .slice none 0 0, .string (⟨#[]⟩ : ByteArray), .string (⟨#[]⟩ : ByteArray)]) ?_ 2 _ rfl; refine Sq.bk ?_; refine blk_put (cs := #[.int .i64 x171000_1, .int .i64 0, .int .i64 0, .slice none 0 0, .string (⟨#[]⟩ : ByteArray), .string (⟨#[]⟩ : ByteArray)]) ?_ 1 _ rfl; refine Sq.bk ?_; refine blk_put (cs := #[.int .i64 0, .int .i64 0, .int .i64 0, .slice none 0 0, .string (⟨#[]⟩ : ByteArray), .string (⟨#[]⟩ : ByteArray)]) ?_ 0 _ rfl; exact Sq.bk BK166.out) Tryz.underlying24 rfl (by kernel_rfl)) rfl ?_
     exact ⟨_, by first | rfl | (simp [errW_none, errW_some] <;> rfl) | (simp [*, errW_none, errW_some] <;> rfl), by refine Sq.rk ?_; exact Kd.R_mono (Kd.R_far (p := ⟨gb166, 5, none⟩) (Kd.R_far (p := ⟨gb166, 4, none⟩) (Kd.R_far (p := ⟨gb166, 3, none⟩) (Kd.R_far (p := ⟨gb166, 2, none⟩) (Kd.R_far (p := ⟨gb166, 1, none⟩) (Kd.R_far (p := ⟨gb166, 0, none⟩) (Kd.R_types HO_171003.out BK166.out (by decide)) (fun _ hk => hk.2) (.int .i64 x171000_1)) (fun _ hk => hk.2) (.int .i64 0)) (fun _ hk => hk.2) (.int .i64 0)) (fun _ hk => hk.2) (.slice Ao5 y167.length co5)) (fun _ hk => hk.2) (.string (⟨#[]⟩ : ByteArray))) (fun _ hk => hk.2) (.string (⟨#[]⟩ : ByteArray))) (fun _ hk => trivial), by repeat (first | (with_reducible first | exact HB.out | apply below_alloc | apply pw_below_drewN | apply below_drew1 | refine below_set ?_ GE166.out | refine below_set ?_ GE170.out) | exact HB.out)⟩
    ·rw [if_neg c42] at H
     have c42b0 : (x171000_1 == 0) = false := beq_eq_false_iff_ne.mpr c42
     have c42b1 : (x171000_1 != 0) = true := bne_iff_ne.mpr c42
     replace H := Option.bind_eq_some_iff.mp H
     obtain ⟨⟨t179, t180⟩, A460, H⟩ := H
     try dsimp -failIfUnchanged -simprocs only at H
     have A46 := Aside0.mk A460
     clear A460
     replace H := Option.bind_eq_some_iff.mp H
     obtain ⟨⟨t181, t182, t183⟩, A470, H⟩ := H
     try dsimp -failIfUnchanged -simprocs only at H
     have A47 := Aside0.mk A470
     clear A470
     by_cases c48 : t183 = true
     ·subst c48
      first | rw [if_pos rfl] at H | rw [if_pos trivial] at H
      try dsimp -failIfUnchanged -simprocs only at H
      by_cases c49 : 1 < (t181.length : Int)
      ·rw [if_pos c49] at H
       have c49b0 : decide (1 < (t181.length : Int)) = true := decide_eq_true c49
       have c49b1 : decide (1 < t181.length) = true := decide_eq_true (by omega)
       clear c49
       replace H := Option.bind_eq_some_iff.mp H
       obtain ⟨⟨t187, t188⟩, A500, H⟩ := H
       try dsimp -failIfUnchanged -simprocs only at H
       have A50 := Aside0.mk A500
       clear A500
       have HC51 := Aside0.mk H
       clear H
       have hnb52 := NB170_166.out
       have hnc52 := NB166_170.out
       obtain ⟨hcz53_0, hcz53_1, hcz53_2, hcz53_3, hcz53_4, hcz53_5⟩ := Sq.c6 BK170.out
       have hfz53_0 := Sq.fz BK170.out
       go_upto_if 82 with (first | ((with_reducible refine gate_callee (f := 16) rfl ?_); refine Sq.goM (some 55) Tryz.func16 #[.int .i64 x171000_1] ?_; (with_reducible refine (spec_l12Parts.calls x171000_1 t179 t180 _ A46.out).mono ?_); rintro e w54 ⟨rfl, hb⟩; refine ⟨_, rfl, ?_⟩; have n0_ := Aside0.mk (Kd.R_below (by exact Sq.rk HO_171003.out) hb); have n1_ := Aside0.mk (blk_below (g := gb166) (o := .cells #[.int .i64 0, .int .i64 0, .int .i64 0, .slice none 0 0, .string (⟨#[]⟩ : ByteArray), .string (⟨#[]⟩ : ByteArray)] 24 (0, 0)) (by exact Sq.bk BK166.out) hb); have n2_ := Aside0.mk (blk_below (g := gb170) (o := .cells #[.int .i64 x171000_1, .int .i64 0, .int .i64 0, .slice Ao5 y167.length co5, .string (⟨#[]⟩ : ByteArray), .string (⟨#[]⟩ : ByteArray)] 24 (0, 0)) (by exact Sq.bk BK170.out) hb); have n3_ := Aside0.mk (below_step (by repeat (first | (with_reducible first | exact HB.out | apply below_alloc | apply pw_below_drewN | apply below_drew1 | refine below_set ?_ GE166.out | refine below_set ?_ GE170.out) | exact HB.out)) hb); clear HO_171003; clear BK166; clear BK170; clear HB; have HO_171003 := n0_; have BK166 := n1_; have BK170 := n2_; have HB := n3_; clear n0_ n1_ n2_ n3_; (try clear hb); (try clear hb2); (try clear hk); (try clear hi)) | ((with_reducible refine gate_callee (f := 17) rfl ?_); refine Sq.goM (some 62) Tryz.func17 #[.string a0, .int .i64 t179, .bool t180] ?_; (with_reducible refine (spec_l12Head.calls k1 a0 t179 t180 t181 t182 true _ A47.out).mono ?_); rintro e w55 ⟨v184, rfl, ho0, hb⟩; refine ⟨_, rfl, ?_⟩; have n0_ := Aside0.mk (Kd.R_below (by exact Sq.rk HO_171003.out) hb); have n1_ := Aside0.mk (Kd.R_lower ho0 (below_size (by repeat (first | (with_reducible first | exact HB.out | apply below_alloc | apply pw_below_drewN | apply below_drew1 | refine below_set ?_ GE166.out | refine below_set ?_ GE170.out) | exact HB.out)))); have n2_ := Aside0.mk (blk_below (g := gb166) (o := .cells #[.int .i64 0, .int .i64 0, .int .i64 0, .slice none 0 0, .string (⟨#[]⟩ : ByteArray), .string (⟨#[]⟩ : ByteArray)] 24 (0, 0)) (by exact Sq.bk BK166.out) hb); have n3_ := Aside0.mk (blk_below (g := gb170) (o := .cells #[.int .i64 x171000_1, .int .i64 0, .int .i64 0, .slice Ao5 y167.length co5, .string (⟨#[]⟩ : ByteArray), .string (⟨#[]⟩ : ByteArray)] 24 (0, 0)) (by exact Sq.bk BK170.out) hb); have n4_ := Aside0.mk (below_step (by repeat (first | (with_reducible first | exact HB.out | apply below_alloc | apply pw_below_drewN | apply below_drew1 | refine below_set ?_ GE166.out | refine below_set ?_ GE170.out) | exact HB.out)) hb); clear HO_171003; clear BK166; clear BK170; clear HB; have HO_171003 := n0_; have HO185 := n1_; have BK166 := n2_; have BK170 := n3_; have HB := n4_; clear n0_ n1_ n2_ n3_ n4_; (try clear hb); (try clear hb2); (try clear hk); (try clear hi); (try clear ho0); obtain ⟨Ao56, co56, eo56⟩ := Kd.R_slice HO185.out; subst eo56; have p186 : 0 ≤ (1 : Int) := (by omega); have q186 : 1 < (t181.length : Int) := of_decide_eq_true (by first | (with_reducible assumption) | assumption); obtain ⟨ad186, e186, hx186_0⟩ := Kd.at_string (Kd.R_reads' HO185.out).2.2 1 p186 q186; cases e186; (try simp only [show (1 : Int).toNat = 1 from rfl, Nat.reduceMul, Nat.reduceEqDiff, Go.Addr.add, ↓reduceIte] at hx186_0); have qi186 : (1 < t181.length) = True := eq_true (by omega); (try rw [show ((1 : Int)).toNat = 1 from rfl] at hx186_0); replace p186 := eq_true p186; replace q186 := eq_true q186) | ((with_reducible refine gate_callee (f := 18) rfl ?_); refine Sq.goM (some 73) Tryz.func18 #[.string (rdOf ByteArray.empty t181 1)] ?_; (with_reducible refine (spec_l00Number.calls k1 (rdOf ByteArray.empty t181 1) t187 t188 _ A50.out).mono ?_); rintro e w' ⟨rfl, ⟨nd, rfl⟩⟩; refine ⟨_, rfl, ?_⟩; (try (rw [drewN_self w55]; generalize hq_ : World.drewN w55 _ = w55; have n0_ : Aside0 (Kd.R Kd.string 9 w55 w.heap.size (fun _ => True) (.slice (some ad186) t181.length co56) t181) := ⟨by rw [← hq_]; exact (by exact Sq.rk HO185.out)⟩; have n1_ : Aside0 (Kd.R (Kd.int .i64) 3 w55 w.heap.size (fun _ => True) (.slice Ao5 y167.length co5) y167) := ⟨by rw [← hq_]; exact (by exact Sq.rk HO_171003.out)⟩; have n2_ : Aside0 (w55.heap[gb166]? = some (.cells #[.int .i64 0, .int .i64 0, .int .i64 0, .slice none 0 0, .string (⟨#[]⟩ : ByteArray), .string (⟨#[]⟩ : ByteArray)] 24 (0, 0))) := ⟨by rw [← hq_]; exact (by exact Sq.bk BK166.out)⟩; have n3_ : Aside0 (w55.heap[gb170]? = some (.cells #[.int .i64 x171000_1, .int .i64 0, .int .i64 0, .slice Ao5 y167.length co5, .string (⟨#[]⟩ : ByteArray), .string (⟨#[]⟩ : ByteArray)] 24 (0, 0))) := ⟨by rw [← hq_]; exact (by exact Sq.bk BK170.out)⟩; have n4_ : Aside0 (Below w.heap.size w w55) := ⟨by rw [← hq_]; exact (by repeat (first | (with_reducible first | exact HB.out | apply below_alloc | apply pw_below_drewN | apply below_drew1 | refine below_set ?_ GE166.out | refine below_set ?_ GE170.out) | exact HB.out))⟩; clear HO185 HO_171003 BK166 BK170 HB hq_; have HO185 := n0_; have HO_171003 := n1_; have BK166 := n2_; have BK170 := n3_; have HB := n4_; clear n0_ n1_ n2_ n3_ n4_)); obtain ⟨hcz57_0, hcz57_1, hcz57_2, hcz57_3, hcz57_4, hcz57_5⟩ := Sq.c6 BK170.out; have hfz57_0 := Sq.fz BK170.out))
       (try simp only [Act.put, List.setIfInBounds_toArray, List.set_cons_zero, List.set_cons_succ])
       go_cut [82] (fun v82 wc => ∃ (kq : Nat) (x82_50 : Bool), v82 = .bool x82_50 ∧ Aside0 (spec_l12ReadCall.j1 kq t179 t181 true t188 x171000_1 x82_50 x171000_1 t187 0 y167 (⟨#[]⟩ : ByteArray) t182 = some (r1, r2, r3, r4, r5, r6, r7)) ∧ Aside0 (kq ≤ k1) ∧ Aside0 (Kd.R Kd.string 9 wc w.heap.size (fun _ => True) (.slice (some ad186) t181.length co56) t181) ∧ Aside0 (Kd.R (Kd.int .i64) 3 wc w.heap.size (fun _ => True) (.slice Ao5 y167.length co5) y167) ∧ Aside0 (wc.heap[gb166]? = some (.cells #[.int .i64 0, .int .i64 0, .int .i64 0, (.slice none 0 0), .string (⟨#[]⟩ : ByteArray), .string (⟨#[]⟩ : ByteArray)] 24 (0, 0))) ∧ Aside0 (wc.heap[gb170]? = some (.cells #[.int .i64 x171000_1, .int .i64 t187, .int .i64 0, (.slice Ao5 y167.length co5), .string (⟨#[]⟩ : ByteArray), .string t182] 24 (0, 0))) ∧ Aside0 (Below w.heap.size w wc))
       case first =>
        have H := HC51.out
        clear HC51
        by_cases c58 : x171000_1 = 2
        ·rw [if_pos c58] at H
         have c58b0 : (x171000_1 == 2) = true := beq_iff_eq.mpr c58
         have c58b1 : (x171000_1 != 2) = false := bne_eq_false_iff_eq.mpr c58
         clear c58
         (first | rw [c58b0] | (simp only [i64_w, i32_w]; rw [c58b0]) | skip)
         have H' := Aside0.mk H
         clear H
         go_wp2
         go_meet
         case rel => exact ⟨_, ((x171000_1 == 2)), (by first | rfl | (simp; done) | (simp [*]; done) | (generalize ByteArray.toList _ = l_; cases l_ <;> rfl)), H', ⟨by have := HK1.out; first | omega | exact Nat.le_refl _⟩, ⟨by refine Sq.rk ?_; exact Kd.R_mono (Kd.R_far (p := ⟨gb170, 5, none⟩) (Kd.R_far (p := ⟨gb170, 1, none⟩) (Kd.R_types HO185.out BK170.out (by decide)) (fun _ hk => hk.2) (.int .i64 t187)) (fun _ hk => hk.2) (.string t182)) (fun _ hk => trivial)⟩, ⟨by refine Sq.rk ?_; exact Kd.R_mono (Kd.R_far (p := ⟨gb170, 5, none⟩) (Kd.R_far (p := ⟨gb170, 1, none⟩) (Kd.R_types HO_171003.out BK170.out (by decide)) (fun _ hk => hk.2) (.int .i64 t187)) (fun _ hk => hk.2) (.string t182)) (fun _ hk => trivial)⟩, ⟨by refine Sq.bk ?_; refine blk_far ?_ NB166_170.out _; refine Sq.bk ?_; refine blk_far ?_ NB166_170.out _; exact Sq.bk BK166.out⟩, ⟨by refine Sq.bk ?_; refine blk_put (cs := #[.int .i64 x171000_1, .int .i64 t187, .int .i64 0, .slice Ao5 y167.length co5, .string (⟨#[]⟩ : ByteArray), .string (⟨#[]⟩ : ByteArray)]) ?_ 5 _ rfl; refine Sq.bk ?_; refine blk_put (cs := #[.int .i64 x171000_1, .int .i64 0, .int .i64 0, .slice Ao5 y167.length co5, .string (⟨#[]⟩ : ByteArray), .string (⟨#[]⟩ : ByteArray)]) ?_ 1 _ rfl; exact Sq.bk BK170.out⟩, ⟨by repeat (first | (with_reducible first | exact HB.out | apply below_alloc | apply pw_below_drewN | apply below_drew1 | refine below_set ?_ GE166.out | refine below_set ?_ GE170.out) | exact HB.out)⟩⟩
        ·rw [if_neg c58] at H
         have c58b0 : (x171000_1 == 2) = false := beq_eq_false_iff_ne.mpr c58
         have c58b1 : (x171000_1 != 2) = true := bne_iff_ne.mpr c58
         (first | rw [c58b0] | (simp only [i64_w, i32_w]; rw [c58b0]) | skip)
         by_cases c59 : x171000_1 = 3
         ·rw [if_pos c59] at H
          have c59b0 : (x171000_1 == 3) = true := beq_iff_eq.mpr c59
          have c59b1 : (x171000_1 != 3) = false := bne_eq_false_iff_eq.mpr c59
          clear c59
          have H' := Aside0.mk H
          clear H
          go_wp2
          go_meet
          case rel => exact ⟨_, ((x171000_1 == 3)), (by first | rfl | (simp; done) | (simp [*]; done) | (generalize ByteArray.toList _ = l_; cases l_ <;> rfl)), H', ⟨by have := HK1.out; first | omega | exact Nat.le_refl _⟩, ⟨by refine Sq.rk ?_; exact Kd.R_mono (Kd.R_far (p := ⟨gb170, 5, none⟩) (Kd.R_far (p := ⟨gb170, 1, none⟩) (Kd.R_types HO185.out BK170.out (by decide)) (fun _ hk => hk.2) (.int .i64 t187)) (fun _ hk => hk.2) (.string t182)) (fun _ hk => trivial)⟩, ⟨by refine Sq.rk ?_; exact Kd.R_mono (Kd.R_far (p := ⟨gb170, 5, none⟩) (Kd.R_far (p := ⟨gb170, 1, none⟩) (Kd.R_types HO_171003.out BK170.out (by decide)) (fun _ hk => hk.2) (.int .i64 t187)) (fun _ hk => hk.2) (.string t182)) (fun _ hk => trivial)⟩, ⟨by refine Sq.bk ?_; refine blk_far ?_ NB166_170.out _; refine Sq.bk ?_; refine blk_far ?_ NB166_170.out _; exact Sq.bk BK166.out⟩, ⟨by refine Sq.bk ?_; refine blk_put (cs := #[.int .i64 x171000_1, .int .i64 t187, .int .i64 0, .slice Ao5 y167.length co5, .string (⟨#[]⟩ : ByteArray), .string (⟨#[]⟩ : ByteArray)]) ?_ 5 _ rfl; refine Sq.bk ?_; refine blk_put (cs := #[.int .i64 x171000_1, .int .i64 0, .int .i64 0, .slice Ao5 y167.length co5, .string (⟨#[]⟩ : ByteArray), .string (⟨#[]⟩ : ByteArray)]) ?_ 1 _ rfl; exact Sq.bk BK170.out⟩, ⟨by repeat (first | (with_reducible first | exact HB.out | apply below_alloc | apply pw_below_drewN | apply below_drew1 | refine below_set ?_ GE166.out | refine below_set ?_ GE170.out) | exact HB.out)⟩⟩
         ·rw [if_neg c59] at H
          have c59b0 : (x171000_1 == 3) = false := beq_eq_false_iff_ne.mpr c59
          have c59b1 : (x171000_1 != 3) = true := bne_iff_ne.mpr c59
          by_cases c60 : x171000_1 = 4
          ·rw [if_pos c60] at H
           have c60b0 : (x171000_1 == 4) = true := beq_iff_eq.mpr c60
           have c60b1 : (x171000_1 != 4) = false := bne_eq_false_iff_eq.mpr c60
           clear c60
           have H' := Aside0.mk H
           clear H
           go_wp2
           go_meet
           case rel => exact ⟨_, ((x171000_1 == 4)), (by first | rfl | (simp; done) | (simp [*]; done) | (generalize ByteArray.toList _ = l_; cases l_ <;> rfl)), H', ⟨by have := HK1.out; first | omega | exact Nat.le_refl _⟩, ⟨by refine Sq.rk ?_; exact Kd.R_mono (Kd.R_far (p := ⟨gb170, 5, none⟩) (Kd.R_far (p := ⟨gb170, 1, none⟩) (Kd.R_types HO185.out BK170.out (by decide)) (fun _ hk => hk.2) (.int .i64 t187)) (fun _ hk => hk.2) (.string t182)) (fun _ hk => trivial)⟩, ⟨by refine Sq.rk ?_; exact Kd.R_mono (Kd.R_far (p := ⟨gb170, 5, none⟩) (Kd.R_far (p := ⟨gb170, 1, none⟩) (Kd.R_types HO_171003.out BK170.out (by decide)) (fun _ hk => hk.2) (.int .i64 t187)) (fun _ hk => hk.2) (.string t182)) (fun _ hk => trivial)⟩, ⟨by refine Sq.bk ?_; refine blk_far ?_ NB166_170.out _; refine Sq.bk ?_; refine blk_far ?_ NB166_170.out _; exact Sq.bk BK166.out⟩, ⟨by refine Sq.bk ?_; refine blk_put (cs := #[.int .i64 x171000_1, .int .i64 t187, .int .i64 0, .slice Ao5 y167.length co5, .string (⟨#[]⟩ : ByteArray), .string (⟨#[]⟩ : ByteArray)]) ?_ 5 _ rfl; refine Sq.bk ?_; refine blk_put (cs := #[.int .i64 x171000_1, .int .i64 0, .int .i64 0, .slice Ao5 y167.length co5, .string (⟨#[]⟩ : ByteArray), .string (⟨#[]⟩ : ByteArray)]) ?_ 1 _ rfl; exact Sq.bk BK170.out⟩, ⟨by repeat (first | (with_reducible first | exact HB.out | apply below_alloc | apply pw_below_drewN | apply below_drew1 | refine below_set ?_ GE166.out | refine below_set ?_ GE170.out) | exact HB.out)⟩⟩
          ·rw [if_neg c60] at H
           have c60b0 : (x171000_1 == 4) = false := beq_eq_false_iff_ne.mpr c60
           have c60b1 : (x171000_1 != 4) = true := bne_iff_ne.mpr c60
           have H' := Aside0.mk H
           clear H
           go_wp2
           go_meet
           case rel => exact ⟨_, ((x171000_1 == 5)), (by first | rfl | (simp; done) | (simp [*]; done) | (generalize ByteArray.toList _ = l_; cases l_ <;> rfl)), H', ⟨by have := HK1.out; first | omega | exact Nat.le_refl _⟩, ⟨by refine Sq.rk ?_; exact Kd.R_mono (Kd.R_far (p := ⟨gb170, 5, none⟩) (Kd.R_far (p := ⟨gb170, 1, none⟩) (Kd.R_types HO185.out BK170.out (by decide)) (fun _ hk => hk.2) (.int .i64 t187)) (fun _ hk => hk.2) (.string t182)) (fun _ hk => trivial)⟩, ⟨by refine Sq.rk ?_; exact Kd.R_mono (Kd.R_far (p := ⟨gb170, 5, none⟩) (Kd.R_far (p := ⟨gb170, 1, none⟩) (Kd.R_types HO_171003.out BK170.out (by decide)) (fun _ hk => hk.2) (.int .i64 t187)) (fun _ hk => hk.2) (.string t182)) (fun _ hk => trivial)⟩, ⟨by refine Sq.bk ?_; refine blk_far ?_ NB166_170.out _; refine Sq.bk ?_; refine blk_far ?_ NB166_170.out _; exact Sq.bk BK166.out⟩, ⟨by refine Sq.bk ?_; refine blk_put (cs := #[.int .i64 x171000_1, .int .i64 t187, .int .i64 0, .slice Ao5 y167.length co5, .string (⟨#[]⟩ : ByteArray), .string (⟨#[]⟩ : ByteArray)]) ?_ 5 _ rfl; refine Sq.bk ?_; refine blk_put (cs := #[.int .i64 x171000_1, .int .i64 0, .int .i64 0, .slice Ao5 y167.length co5, .string (⟨#[]⟩ : ByteArray), .string (⟨#[]⟩ : ByteArray)]) ?_ 1 _ rfl; exact Sq.bk BK170.out⟩, ⟨by repeat (first | (with_reducible first | exact HB.out | apply below_alloc | apply pw_below_drewN | apply below_drew1 | refine below_set ?_ GE166.out | refine below_set ?_ GE170.out) | exact HB.out)⟩⟩
       case rest =>
        clear HC51
        try clear c1
        try clear p1
        try clear q1
        try clear hx1
        try clear qi1
        try clear p2
        try clear q2
        try clear hx2
        try clear c4
        try clear c5
        try clear c6
        try clear p6
        try clear c9
        try clear c9b0
        try clear c11
        try clear c12
        try clear c13
        try clear c13b0
        try clear c13b1
        try clear c14
        try clear c15
        try clear c16
        try clear c17
        try clear p17
        try clear q17
        try clear hx17
        try clear c18
        try clear c18b0
        try clear c18b1
        try clear p18
        try clear q18
        try clear hx18
        try clear qi18
        try clear c19
        try clear p20
        try clear q20
        try clear hx20
        try clear c42
        try clear c42b0
        try clear c42b1
        try clear c43
        try clear c48
        try clear c49
        try clear c49b0
        try clear c49b1
        try clear c52
        try clear c58
        try clear c58b0
        try clear c58b1
        try clear c59
        try clear c59b0
        try clear c59b1
        try clear c60
        try clear c60b0
        try clear c60b1
        try clear hcz44_0
        try clear hcz44_1
        try clear hcz44_2
        try clear hcz44_3
        try clear hcz44_4
        try clear hcz44_5
        try clear hcz45_0
        try clear hcz45_1
        try clear hcz45_2
        try clear hcz45_3
        try clear hcz45_4
        try clear hcz45_5
        try clear hcz53_0
        try clear hcz53_1
        try clear hcz53_2
        try clear hcz53_3
        try clear hcz53_4
        try clear hcz53_5
        try clear hcz57_0
        try clear hcz57_1
        try clear hcz57_2
        try clear hcz57_3
        try clear hcz57_4
        try clear hcz57_5
        try clear hfz44_0
        try clear hfz44_1
        try clear hfz44_2
        try clear hfz44_3
        try clear hfz44_4
        try clear hfz44_5
        try clear hfz45_0
        try clear hfz45_1
        try clear hfz45_2
        try clear hfz45_3
        try clear hfz45_4
        try clear hfz45_5
        try clear hfz53_0
        try clear hfz57_0
        try clear hx174_0
        try clear hx178_0
        try clear hx186_0
        try clear p174
        try clear p178
        try clear p186
        try clear p20
        try clear q174
        try clear q178
        try clear q186
        try clear q20
        obtain ⟨kq, x82_50, rfl, HA, HJ50, HO_9, HO_171003, BK166, BK170, HB⟩ := hcut
        cases kq with
        | zero => exact absurd HA.out (by simp [spec_l12ReadCall.j1])
        | succ kj50 =>
         have H := HA.out
         clear HA
         simp only [spec_l12ReadCall.j1] at H
         by_cases c61 : x82_50 = true
         ·subst c61
          first | rw [if_pos rfl] at H | rw [if_pos trivial] at H
          try dsimp -failIfUnchanged -simprocs only at H
          by_cases c62 : 2 < (t181.length : Int)
          ·rw [if_pos c62] at H
           have c62b0 : decide (2 < (t181.length : Int)) = true := decide_eq_true c62
           have c62b1 : decide (2 < t181.length) = true := decide_eq_true (by omega)
           clear c62
           replace H := Option.bind_eq_some_iff.mp H
           obtain ⟨⟨t190, t191⟩, A630, H⟩ := H
           try dsimp -failIfUnchanged -simprocs only at H
           have A63 := Aside0.mk A630
           clear A630
           by_cases c64 : t179 = 4
           ·rw [if_pos c64] at H
            have c64b0 : (t179 == 4) = true := beq_iff_eq.mpr c64
            have c64b1 : (t179 != 4) = false := bne_eq_false_iff_eq.mpr c64
            clear c64
            by_cases c65 : 3 < (t181.length : Int)
            ·rw [if_pos c65] at H
             have c65b0 : decide (3 < (t181.length : Int)) = true := decide_eq_true c65
             have c65b1 : decide (3 < t181.length) = true := decide_eq_true (by omega)
             clear c65
             by_cases c66 : t191 = true
             ·subst c66
              first | rw [if_pos rfl] at H | rw [if_pos trivial] at H
              try dsimp -failIfUnchanged -simprocs only at H
              by_cases c67 : t188 = true
              ·subst c67
               first | rw [if_pos rfl] at H | rw [if_pos trivial] at H
               try dsimp -failIfUnchanged -simprocs only at H
               replace H := Option.bind_eq_some_iff.mp H
               obtain ⟨t195, A680, H⟩ := H
               try dsimp -failIfUnchanged -simprocs only at H
               have A68 := Aside0.mk A680
               clear A680
               simp only [Option.some.injEq, Prod.mk.injEq] at H
               obtain ⟨rfl, rfl, rfl, rfl, rfl, rfl, rfl⟩ := H
               have p189 : 0 ≤ (2 : Int) := (by omega)
               have q189 : 2 < (t181.length : Int) := of_decide_eq_true (by first | (with_reducible assumption) | assumption)
               obtain ⟨ad189, e189, hx189_0⟩ := Kd.at_string (Kd.R_reads' HO_9.out).2.2 2 p189 q189
               obtain rfl : ad186 = ad189 := (by injection e189)
               (try simp only [show (2 : Int).toNat = 2 from rfl, Nat.reduceMul, Nat.reduceEqDiff, Go.Addr.add, ↓reduceIte] at hx189_0)
               have qi189 : (2 < t181.length) = True := eq_true (by omega)
               (try rw [show ((2 : Int)).toNat = 2 from rfl] at hx189_0)
               replace p189 := eq_true p189
               replace q189 := eq_true q189
               try go_wp2_with (first | ((with_reducible refine gate_callee (f := 19) rfl ?_); refine Sq.goM (some 91) Tryz.func19 #[.string (rdOf ByteArray.empty t181 2)] ?_; (with_reducible refine (spec_l12ReadPath.calls kj50 (rdOf ByteArray.empty t181 2) t190 true _ A63.out).mono ?_); rintro e w69 ⟨v192, rfl, ho0, hb⟩; refine ⟨_, rfl, ?_⟩; have n0_ := Aside0.mk (Kd.R_below (by exact Sq.rk HO_9.out) hb); have n1_ := Aside0.mk (Kd.R_elder' (by exact Sq.rk HO_171003.out) (Kd.R_base ho0) hb); have n2_ := Aside0.mk (Kd.R_lower (Kd.R_new' ho0 (Kd.R_lt (by exact Sq.rk HO_171003.out))) (below_size (by repeat (first | (with_reducible first | exact HB.out | apply below_alloc | apply pw_below_drewN | apply below_drew1 | refine below_set ?_ GE166.out | refine below_set ?_ GE170.out) | exact HB.out)))); have n3_ := Aside0.mk (blk_below (g := gb166) (o := .cells #[.int .i64 0, .int .i64 0, .int .i64 0, .slice none 0 0, .string (⟨#[]⟩ : ByteArray), .string (⟨#[]⟩ : ByteArray)] 24 (0, 0)) (by exact Sq.bk BK166.out) hb); have n4_ := Aside0.mk (blk_below (g := gb170) (o := .cells #[.int .i64 x171000_1, .int .i64 t187, .int .i64 0, .slice Ao5 y167.length co5, .string (⟨#[]⟩ : ByteArray), .string t182] 24 (0, 0)) (by exact Sq.bk BK170.out) hb); have n5_ := Aside0.mk (below_step (by repeat (first | (with_reducible first | exact HB.out | apply below_alloc | apply pw_below_drewN | apply below_drew1 | refine below_set ?_ GE166.out | refine below_set ?_ GE170.out) | exact HB.out)) hb); clear HO_9; clear HO_171003; clear BK166; clear BK170; clear HB; have HO_9 := n0_; have HO_171003 := n1_; have HO193 := n2_; have BK166 := n3_; have BK170 := n4_; have HB := n5_; clear n0_ n1_ n2_ n3_ n4_ n5_; (try clear hb); (try clear hb2); (try clear hk); (try clear hi); (try clear ho0); obtain ⟨Ao70, co70, eo70⟩ := Kd.R_slice HO193.out; subst eo70; have hnb71 := NB170_166.out; have hnc71 := NB166_170.out; obtain ⟨hcz72_0, hcz72_1, hcz72_2, hcz72_3, hcz72_4, hcz72_5⟩ := Sq.c6 BK170.out; have hfz72_0 := Sq.fz BK170.out; have p194 : 0 ≤ (3 : Int) := (by omega); have q194 : 3 < (t181.length : Int) := of_decide_eq_true (by first | (with_reducible assumption) | assumption); obtain ⟨ad194, e194, hx194_0⟩ := Kd.at_string (Kd.R_reads' HO_9.out).2.2 3 p194 q194; obtain rfl : ad186 = ad194 := (by injection e194); (try simp only [show (3 : Int).toNat = 3 from rfl, Nat.reduceMul, Nat.reduceEqDiff, Go.Addr.add, ↓reduceIte] at hx194_0); have qi194 : (3 < t181.length) = True := eq_true (by omega); (try rw [show ((3 : Int)).toNat = 3 from rfl] at hx194_0); have hn194_0 : ad186.block ≠ gb170 := Kd.own_blk (Kd.R_ne HO_9.out BK170.out (by decide)); replace hx194_0 := (cell_far (p := ⟨gb170, 3, none⟩) (by first | (rw [add_block]; exact hn194_0) | (show (Addr.add _ _).block ≠ _; rw [add_block]; exact hn194_0) | exact hn194_0) (.slice Ao70 t190.length co70)).trans hx194_0; clear hn194_0; replace p194 := eq_true p194; replace q194 := eq_true q194))
               have n0_ : Aside0 (Kd.R Kd.string 9 ((w69.setCell ⟨gb170, 3, none⟩ (.slice Ao70 t190.length co70)).setCell ⟨gb170, 4, none⟩ (.string (rdOf ByteArray.empty t181 3))) w.heap.size (fun _ => True) (.slice (some ad186) t181.length co56) t181) := ⟨by refine Sq.rk ?_; exact Kd.R_mono (Kd.R_far (p := ⟨gb170, 4, none⟩) (Kd.R_far (p := ⟨gb170, 3, none⟩) (Kd.R_types HO_9.out BK170.out (by decide)) (fun _ hk => hk.2) (.slice Ao70 t190.length co70)) (fun _ hk => hk.2) (.string (rdOf ByteArray.empty t181 3))) (fun _ hk => trivial)⟩
               have n1_ : Aside0 (Kd.R (Kd.int .i64) 3 ((w69.setCell ⟨gb170, 3, none⟩ (.slice Ao70 t190.length co70)).setCell ⟨gb170, 4, none⟩ (.string (rdOf ByteArray.empty t181 3))) w.heap.size (fun k_ => some k_ ≠ (.slice Ao70 t190.length co70 : Value).ownBlock) (.slice Ao5 y167.length co5) y167) := ⟨by refine Sq.rk ?_; exact Kd.R_mono (Kd.R_far (p := ⟨gb170, 4, none⟩) (Kd.R_far (p := ⟨gb170, 3, none⟩) (Kd.R_types HO_171003.out BK170.out (by decide)) (fun _ hk => hk.2) (.slice Ao70 t190.length co70)) (fun _ hk => hk.2) (.string (rdOf ByteArray.empty t181 3))) (fun _ hk => hk.1.2)⟩
               have n2_ : Aside0 (Kd.R (Kd.int .i64) 3 ((w69.setCell ⟨gb170, 3, none⟩ (.slice Ao70 t190.length co70)).setCell ⟨gb170, 4, none⟩ (.string (rdOf ByteArray.empty t181 3))) w.heap.size (fun k_ => some k_ ≠ (.slice Ao5 y167.length co5 : Value).ownBlock) (.slice Ao70 t190.length co70) t190) := ⟨by refine Sq.rk ?_; exact Kd.R_mono (Kd.R_far (p := ⟨gb170, 4, none⟩) (Kd.R_far (p := ⟨gb170, 3, none⟩) (Kd.R_types HO193.out BK170.out (by decide)) (fun _ hk => hk.2) (.slice Ao70 t190.length co70)) (fun _ hk => hk.2) (.string (rdOf ByteArray.empty t181 3))) (fun _ hk => hk.1.2)⟩
               have n3_ : Aside0 (((w69.setCell ⟨gb170, 3, none⟩ (.slice Ao70 t190.length co70)).setCell ⟨gb170, 4, none⟩ (.string (rdOf ByteArray.empty t181 3))).heap[gb166]? = some (.cells #[.int .i64 0, .int .i64 0, .int .i64 0, .slice none 0 0, .string (⟨#[]⟩ : ByteArray), .string (⟨#[]⟩ : ByteArray)] 24 (0, 0))) := ⟨by refine Sq.bk ?_; refine blk_far ?_ NB166_170.out _; refine Sq.bk ?_; refine blk_far ?_ NB166_170.out _; exact Sq.bk BK166.out⟩
               have n4_ : Aside0 (((w69.setCell ⟨gb170, 3, none⟩ (.slice Ao70 t190.length co70)).setCell ⟨gb170, 4, none⟩ (.string (rdOf ByteArray.empty t181 3))).heap[gb170]? = some (.cells #[.int .i64 x171000_1, .int .i64 t187, .int .i64 0, .slice Ao70 t190.length co70, .string (rdOf ByteArray.empty t181 3), .string t182] 24 (0, 0))) := ⟨by refine Sq.bk ?_; refine blk_put (cs := #[.int .i64 x171000_1, .int .i64 t187, .int .i64 0, .slice Ao70 t190.length co70, .string (⟨#[]⟩ : ByteArray), .string t182]) ?_ 4 _ rfl; refine Sq.bk ?_; refine blk_put (cs := #[.int .i64 x171000_1, .int .i64 t187, .int .i64 0, .slice Ao5 y167.length co5, .string (⟨#[]⟩ : ByteArray), .string t182]) ?_ 3 _ rfl; exact Sq.bk BK170.out⟩
               have n5_ : Aside0 (Below w.heap.size w ((w69.setCell ⟨gb170, 3, none⟩ (.slice Ao70 t190.length co70)).setCell ⟨gb170, 4, none⟩ (.string (rdOf ByteArray.empty t181 3)))) := ⟨by repeat (first | (with_reducible first | exact HB.out | apply below_alloc | apply pw_below_drewN | apply below_drew1 | refine below_set ?_ GE166.out | refine below_set ?_ GE170.out) | exact HB.out)⟩
               (try clear HO_9)
               (try clear HO_171003)
               (try clear HO193)
               (try clear BK166)
               (try clear BK170)
               (try clear HB)
               generalize ((w69.setCell ⟨gb170, 3, none⟩ (.slice Ao70 t190.length co70)).setCell ⟨gb170, 4, none⟩ (.string (rdOf ByteArray.empty t181 3))) = w73 at n0_ n1_ n2_ n3_ n4_ n5_ ⊢
               have HO_9 := n0_
               have HO_171003 := n1_
               have HO193 := n2_
               have BK166 := n3_
               have BK170 := n4_
               have HB := n5_
               clear n0_ n1_ n2_ n3_ n4_ n5_
               refine reg30c A68.out NB170_166.out BK166.out BK170.out (Kd.R_mono HO193.out (fun _ _ => trivial)) HB.out GE166.out (fun _ _ _ _ _ h => h) ?_
               intro z118_ z119_ z120_ z121_ z122_ z123_ z124_ z125_ z126_ wz_ bz_ oz_ hz_
               have BZ_ := Aside0.mk bz_
               have OZ_ := Aside0.mk oz_
               have HZ_ := Aside0.mk hz_
               clear bz_ oz_ hz_
               try go_wp2
               refine bodyPost_ret (results_ct rfl _ _ gb166 24 #[.int .i64 x171000_1, .int .i64 t187, .int .i64 0, .slice Ao70 t190.length co70, .string (rdOf ByteArray.empty t181 3), .string t182] (0, 0) _ rfl BZ_.out Tryz.underlying24 rfl (by kernel_rfl)) rfl ?_
               exact ⟨_, by first | rfl | (simp [errW_none, errW_some] <;> rfl) | (simp [*, errW_none, errW_some] <;> rfl), OZ_.out, HZ_.out⟩
              ·replace c67 := Bool.eq_false_iff.mpr c67
               subst c67
               rw [if_neg (show ¬ (false = true) by decide)] at H
               try dsimp -failIfUnchanged -simprocs only at H
               simp only [Option.some.injEq, Prod.mk.injEq] at H
               obtain ⟨rfl, rfl, rfl, rfl, rfl, rfl, rfl⟩ := H
               have p189 : 0 ≤ (2 : Int) := (by omega)
               have q189 : 2 < (t181.length : Int) := of_decide_eq_true (by first | (with_reducible assumption) | assumption)
               obtain ⟨ad189, e189, hx189_0⟩ := Kd.at_string (Kd.R_reads' HO_9.out).2.2 2 p189 q189
               obtain rfl : ad186 = ad189 := (by injection e189)
               (try simp only [show (2 : Int).toNat = 2 from rfl, Nat.reduceMul, Nat.reduceEqDiff, Go.Addr.add, ↓reduceIte] at hx189_0)
               have qi189 : (2 < t181.length) = True := eq_true (by omega)
               (try rw [show ((2 : Int)).toNat = 2 from rfl] at hx189_0)
               replace p189 := eq_true p189
               replace q189 := eq_true q189
               try go_wp2_with (first | ((with_reducible refine gate_callee (f := 19) rfl ?_); refine Sq.goM (some 91) Tryz.func19 #[.string (rdOf ByteArray.empty t181 2)] ?_; (with_reducible refine (spec_l12ReadPath.calls kj50 (rdOf ByteArray.empty t181 2) t190 true _ A63.out).mono ?_); rintro e w82 ⟨v192, rfl, ho0, hb⟩; refine ⟨_, rfl, ?_⟩; have n0_ := Aside0.mk (Kd.R_below (by exact Sq.rk HO_9.out) hb); have n1_ := Aside0.mk (Kd.R_elder' (by exact Sq.rk HO_171003.out) (Kd.R_base ho0) hb); have n2_ := Aside0.mk (Kd.R_lower (Kd.R_new' ho0 (Kd.R_lt (by exact Sq.rk HO_171003.out))) (below_size (by repeat (first | (with_reducible first | exact HB.out | apply below_alloc | apply pw_below_drewN | apply below_drew1 | refine below_set ?_ GE166.out | refine below_set ?_ GE170.out) | exact HB.out)))); have n3_ := Aside0.mk (blk_below (g := gb166) (o := .cells #[.int .i64 0, .int .i64 0, .int .i64 0, .slice none 0 0, .string (⟨#[]⟩ : ByteArray), .string (⟨#[]⟩ : ByteArray)] 24 (0, 0)) (by exact Sq.bk BK166.out) hb); have n4_ := Aside0.mk (blk_below (g := gb170) (o := .cells #[.int .i64 x171000_1, .int .i64 t187, .int .i64 0, .slice Ao5 y167.length co5, .string (⟨#[]⟩ : ByteArray), .string t182] 24 (0, 0)) (by exact Sq.bk BK170.out) hb); have n5_ := Aside0.mk (below_step (by repeat (first | (with_reducible first | exact HB.out | apply below_alloc | apply pw_below_drewN | apply below_drew1 | refine below_set ?_ GE166.out | refine below_set ?_ GE170.out) | exact HB.out)) hb); clear HO_9; clear HO_171003; clear BK166; clear BK170; clear HB; have HO_9 := n0_; have HO_171003 := n1_; have HO193 := n2_; have BK166 := n3_; have BK170 := n4_; have HB := n5_; clear n0_ n1_ n2_ n3_ n4_ n5_; (try clear hb); (try clear hb2); (try clear hk); (try clear hi); (try clear ho0); obtain ⟨Ao83, co83, eo83⟩ := Kd.R_slice HO193.out; subst eo83; have hnb84 := NB170_166.out; have hnc84 := NB166_170.out; obtain ⟨hcz85_0, hcz85_1, hcz85_2, hcz85_3, hcz85_4, hcz85_5⟩ := Sq.c6 BK170.out; have hfz85_0 := Sq.fz BK170.out; have p194 : 0 ≤ (3 : Int) := (by omega); have q194 : 3 < (t181.length : Int) := of_decide_eq_true (by first | (with_reducible assumption) | assumption); obtain ⟨ad194, e194, hx194_0⟩ := Kd.at_string (Kd.R_reads' HO_9.out).2.2 3 p194 q194; obtain rfl : ad186 = ad194 := (by injection e194); (try simp only [show (3 : Int).toNat = 3 from rfl, Nat.reduceMul, Nat.reduceEqDiff, Go.Addr.add, ↓reduceIte] at hx194_0); have qi194 : (3 < t181.length) = True := eq_true (by omega); (try rw [show ((3 : Int)).toNat = 3 from rfl] at hx194_0); have hn194_0 : ad186.block ≠ gb170 := Kd.own_blk (Kd.R_ne HO_9.out BK170.out (by decide)); replace hx194_0 := (cell_far (p := ⟨gb170, 3, none⟩) (by first | (rw [add_block]; exact hn194_0) | (show (Addr.add _ _).block ≠ _; rw [add_block]; exact hn194_0) | exact hn194_0) (.slice Ao83 t190.length co83)).trans hx194_0; clear hn194_0; replace p194 := eq_true p194; replace q194 := eq_true q194))
               have n0_ : Aside0 (Kd.R Kd.string 9 ((w82.setCell ⟨gb170, 3, none⟩ (.slice Ao83 t190.length co83)).setCell ⟨gb170, 4, none⟩ (.string (rdOf ByteArray.empty t181 3))) w.heap.size (fun _ => True) (.slice (some ad186) t181.length co56) t181) := ⟨by refine Sq.rk ?_; exact Kd.R_mono (Kd.R_far (p := ⟨gb170, 4, none⟩) (Kd.R_far (p := ⟨gb170, 3, none⟩) (Kd.R_types HO_9.out BK170.out (by decide)) (fun _ hk => hk.2) (.slice Ao83 t190.length co83)) (fun _ hk => hk.2) (.string (rdOf ByteArray.empty t181 3))) (fun _ hk => trivial)⟩
               have n1_ : Aside0 (Kd.R (Kd.int .i64) 3 ((w82.setCell ⟨gb170, 3, none⟩ (.slice Ao83 t190.length co83)).setCell ⟨gb170, 4, none⟩ (.string (rdOf ByteArray.empty t181 3))) w.heap.size (fun k_ => some k_ ≠ (.slice Ao83 t190.length co83 : Value).ownBlock) (.slice Ao5 y167.length co5) y167) := ⟨by refine Sq.rk ?_; exact Kd.R_mono (Kd.R_far (p := ⟨gb170, 4, none⟩) (Kd.R_far (p := ⟨gb170, 3, none⟩) (Kd.R_types HO_171003.out BK170.out (by decide)) (fun _ hk => hk.2) (.slice Ao83 t190.length co83)) (fun _ hk => hk.2) (.string (rdOf ByteArray.empty t181 3))) (fun _ hk => hk.1.2)⟩
               have n2_ : Aside0 (Kd.R (Kd.int .i64) 3 ((w82.setCell ⟨gb170, 3, none⟩ (.slice Ao83 t190.length co83)).setCell ⟨gb170, 4, none⟩ (.string (rdOf ByteArray.empty t181 3))) w.heap.size (fun k_ => some k_ ≠ (.slice Ao5 y167.length co5 : Value).ownBlock) (.slice Ao83 t190.length co83) t190) := ⟨by refine Sq.rk ?_; exact Kd.R_mono (Kd.R_far (p := ⟨gb170, 4, none⟩) (Kd.R_far (p := ⟨gb170, 3, none⟩) (Kd.R_types HO193.out BK170.out (by decide)) (fun _ hk => hk.2) (.slice Ao83 t190.length co83)) (fun _ hk => hk.2) (.string (rdOf ByteArray.empty t181 3))) (fun _ hk => hk.1.2)⟩
               have n3_ : Aside0 (((w82.setCell ⟨gb170, 3, none⟩ (.slice Ao83 t190.length co83)).setCell ⟨gb170, 4, none⟩ (.string (rdOf ByteArray.empty t181 3))).heap[gb166]? = some (.cells #[.int .i64 0, .int .i64 0, .int .i64 0, .slice none 0 0, .string (⟨#[]⟩ : ByteArray), .string (⟨#[]⟩ : ByteArray)] 24 (0, 0))) := ⟨by refine Sq.bk ?_; refine blk_far ?_ NB166_170.out _; refine Sq.bk ?_; refine blk_far ?_ NB166_170.out _; exact Sq.bk BK166.out⟩
               have n4_ : Aside0 (((w82.setCell ⟨gb170, 3, none⟩ (.slice Ao83 t190.length co83)).setCell ⟨gb170, 4, none⟩ (.string (rdOf ByteArray.empty t181 3))).heap[gb170]? = some (.cells #[.int .i64 x171000_1, .int .i64 t187, .int .i64 0, .slice Ao83 t190.length co83, .string (rdOf ByteArray.empty t181 3), .string t182] 24 (0, 0))) := ⟨by refine Sq.bk ?_; refine blk_put (cs := #[.int .i64 x171000_1, .int .i64 t187, .int .i64 0, .slice Ao83 t190.length co83, .string (⟨#[]⟩ : ByteArray), .string t182]) ?_ 4 _ rfl; refine Sq.bk ?_; refine blk_put (cs := #[.int .i64 x171000_1, .int .i64 t187, .int .i64 0, .slice Ao5 y167.length co5, .string (⟨#[]⟩ : ByteArray), .string t182]) ?_ 3 _ rfl; exact Sq.bk BK170.out⟩
               have n5_ : Aside0 (Below w.heap.size w ((w82.setCell ⟨gb170, 3, none⟩ (.slice Ao83 t190.length co83)).setCell ⟨gb170, 4, none⟩ (.string (rdOf ByteArray.empty t181 3)))) := ⟨by repeat (first | (with_reducible first | exact HB.out | apply below_alloc | apply pw_below_drewN | apply below_drew1 | refine below_set ?_ GE166.out | refine below_set ?_ GE170.out) | exact HB.out)⟩
               (try clear HO_9)
               (try clear HO_171003)
               (try clear HO193)
               (try clear BK166)
               (try clear BK170)
               (try clear HB)
               generalize ((w82.setCell ⟨gb170, 3, none⟩ (.slice Ao83 t190.length co83)).setCell ⟨gb170, 4, none⟩ (.string (rdOf ByteArray.empty t181 3))) = w86 at n0_ n1_ n2_ n3_ n4_ n5_ ⊢
               have HO_9 := n0_
               have HO_171003 := n1_
               have HO193 := n2_
               have BK166 := n3_
               have BK170 := n4_
               have HB := n5_
               clear n0_ n1_ n2_ n3_ n4_ n5_
               refine reg30b NB170_166.out BK166.out BK170.out (Kd.R_mono HO193.out (fun _ _ => trivial)) HB.out GE166.out (fun _ _ _ _ _ h => h) ?_
               intro z118_ z119_ z120_ z121_ z122_ z123_ z124_ z125_ z126_ wz_ bz_ oz_ hz_
               have BZ_ := Aside0.mk bz_
               have OZ_ := Aside0.mk oz_
               have HZ_ := Aside0.mk hz_
               clear bz_ oz_ hz_
               try go_wp2
               refine bodyPost_ret (results_ct rfl _ _ gb166 24 #[.int .i64 x171000_1, .int .i64 t187, .int .i64 0, .slice Ao83 t190.length co83, .string (rdOf ByteArray.empty t181 3), .string t182] (0, 0) _ rfl BZ_.out Tryz.underlying24 rfl (by kernel_rfl)) rfl ?_
               exact ⟨_, by first | rfl | (simp [errW_none, errW_some] <;> rfl) | (simp [*, errW_none, errW_some] <;> rfl), OZ_.out, HZ_.out⟩
             ·replace c66 := Bool.eq_false_iff.mpr c66
              subst c66
              rw [if_neg (show ¬ (false = true) by decide)] at H
              try dsimp -failIfUnchanged -simprocs only at H
              simp only [Option.some.injEq, Prod.mk.injEq] at H
              obtain ⟨rfl, rfl, rfl, rfl, rfl, rfl, rfl⟩ := H
              have p189 : 0 ≤ (2 : Int) := (by omega)
              have q189 : 2 < (t181.length : Int) := of_decide_eq_true (by first | (with_reducible assumption) | assumption)
              obtain ⟨ad189, e189, hx189_0⟩ := Kd.at_string (Kd.R_reads' HO_9.out).2.2 2 p189 q189
              obtain rfl : ad186 = ad189 := (by injection e189)
              (try simp only [show (2 : Int).toNat = 2 from rfl, Nat.reduceMul, Nat.reduceEqDiff, Go.Addr.add, ↓reduceIte] at hx189_0)
              have qi189 : (2 < t181.length) = True := eq_true (by omega)
              (try rw [show ((2 : Int)).toNat = 2 from rfl] at hx189_0)
              replace p189 := eq_true p189
              replace q189 := eq_true q189
              try go_wp2_with (first | ((with_reducible refine gate_callee (f := 19) rfl ?_); refine Sq.goM (some 91) Tryz.func19 #[.string (rdOf ByteArray.empty t181 2)] ?_; (with_reducible refine (spec_l12ReadPath.calls kj50 (rdOf ByteArray.empty t181 2) t190 false _ A63.out).mono ?_); rintro e w94 ⟨v192, rfl, ho0, hb⟩; refine ⟨_, rfl, ?_⟩; have n0_ := Aside0.mk (Kd.R_below (by exact Sq.rk HO_9.out) hb); have n1_ := Aside0.mk (Kd.R_elder' (by exact Sq.rk HO_171003.out) (Kd.R_base ho0) hb); have n2_ := Aside0.mk (Kd.R_lower (Kd.R_new' ho0 (Kd.R_lt (by exact Sq.rk HO_171003.out))) (below_size (by repeat (first | (with_reducible first | exact HB.out | apply below_alloc | apply pw_below_drewN | apply below_drew1 | refine below_set ?_ GE166.out | refine below_set ?_ GE170.out) | exact HB.out)))); have n3_ := Aside0.mk (blk_below (g := gb166) (o := .cells #[.int .i64 0, .int .i64 0, .int .i64 0, .slice none 0 0, .string (⟨#[]⟩ : ByteArray), .string (⟨#[]⟩ : ByteArray)] 24 (0, 0)) (by exact Sq.bk BK166.out) hb); have n4_ := Aside0.mk (blk_below (g := gb170) (o := .cells #[.int .i64 x171000_1, .int .i64 t187, .int .i64 0, .slice Ao5 y167.length co5, .string (⟨#[]⟩ : ByteArray), .string t182] 24 (0, 0)) (by exact Sq.bk BK170.out) hb); have n5_ := Aside0.mk (below_step (by repeat (first | (with_reducible first | exact HB.out | apply below_alloc | apply pw_below_drewN | apply below_drew1 | refine below_set ?_ GE166.out | refine below_set ?_ GE170.out) | exact HB.out)) hb); clear HO_9; clear HO_171003; clear BK166; clear BK170; clear HB; have HO_9 := n0_; have HO_171003 := n1_; have HO193 := n2_; have BK166 := n3_; have BK170 := n4_; have HB := n5_; clear n0_ n1_ n2_ n3_ n4_ n5_; (try clear hb); (try clear hb2); (try clear hk); (try clear hi); (try clear ho0); obtain ⟨Ao95, co95, eo95⟩ := Kd.R_slice HO193.out; subst eo95; have hnb96 := NB170_166.out; have hnc96 := NB166_170.out; obtain ⟨hcz97_0, hcz97_1, hcz97_2, hcz97_3, hcz97_4, hcz97_5⟩ := Sq.c6 BK170.out; have hfz97_0 := Sq.fz BK170.out; have p194 : 0 ≤ (3 : Int) := (by omega); have q194 : 3 < (t181.length : Int) := of_decide_eq_true (by first | (with_reducible assumption) | assumption); obtain ⟨ad194, e194, hx194_0⟩ := Kd.at_string (Kd.R_reads' HO_9.out).2.2 3 p194 q194; obtain rfl : ad186 = ad194 := (by injection e194); (try simp only [show (3 : Int).toNat = 3 from rfl, Nat.reduceMul, Nat.reduceEqDiff, Go.Addr.add, ↓reduceIte] at hx194_0); have qi194 : (3 < t181.length) = True := eq_true (by omega); (try rw [show ((3 : Int)).toNat = 3 from rfl] at hx194_0); have hn194_0 : ad186.block ≠ gb170 := Kd.own_blk (Kd.R_ne HO_9.out BK170.out (by decide)); replace hx194_0 := (cell_far (p := ⟨gb170, 3, none⟩) (by first | (rw [add_block]; exact hn194_0) | (show (Addr.add _ _).block ≠ _; rw [add_block]; exact hn194_0) | exact hn194_0) (.slice Ao95 t190.length co95)).trans hx194_0; clear hn194_0; replace p194 := eq_true p194; replace q194 := eq_true q194))
              have n0_ : Aside0 (Kd.R Kd.string 9 ((w94.setCell ⟨gb170, 3, none⟩ (.slice Ao95 t190.length co95)).setCell ⟨gb170, 4, none⟩ (.string (rdOf ByteArray.empty t181 3))) w.heap.size (fun _ => True) (.slice (some ad186) t181.length co56) t181) := ⟨by refine Sq.rk ?_; exact Kd.R_mono (Kd.R_far (p := ⟨gb170, 4, none⟩) (Kd.R_far (p := ⟨gb170, 3, none⟩) (Kd.R_types HO_9.out BK170.out (by decide)) (fun _ hk => hk.2) (.slice Ao95 t190.length co95)) (fun _ hk => hk.2) (.string (rdOf ByteArray.empty t181 3))) (fun _ hk => trivial)⟩
              have n1_ : Aside0 (Kd.R (Kd.int .i64) 3 ((w94.setCell ⟨gb170, 3, none⟩ (.slice Ao95 t190.length co95)).setCell ⟨gb170, 4, none⟩ (.string (rdOf ByteArray.empty t181 3))) w.heap.size (fun k_ => some k_ ≠ (.slice Ao95 t190.length co95 : Value).ownBlock) (.slice Ao5 y167.length co5) y167) := ⟨by refine Sq.rk ?_; exact Kd.R_mono (Kd.R_far (p := ⟨gb170, 4, none⟩) (Kd.R_far (p := ⟨gb170, 3, none⟩) (Kd.R_types HO_171003.out BK170.out (by decide)) (fun _ hk => hk.2) (.slice Ao95 t190.length co95)) (fun _ hk => hk.2) (.string (rdOf ByteArray.empty t181 3))) (fun _ hk => hk.1.2)⟩
              have n2_ : Aside0 (Kd.R (Kd.int .i64) 3 ((w94.setCell ⟨gb170, 3, none⟩ (.slice Ao95 t190.length co95)).setCell ⟨gb170, 4, none⟩ (.string (rdOf ByteArray.empty t181 3))) w.heap.size (fun k_ => some k_ ≠ (.slice Ao5 y167.length co5 : Value).ownBlock) (.slice Ao95 t190.length co95) t190) := ⟨by refine Sq.rk ?_; exact Kd.R_mono (Kd.R_far (p := ⟨gb170, 4, none⟩) (Kd.R_far (p := ⟨gb170, 3, none⟩) (Kd.R_types HO193.out BK170.out (by decide)) (fun _ hk => hk.2) (.slice Ao95 t190.length co95)) (fun _ hk => hk.2) (.string (rdOf ByteArray.empty t181 3))) (fun _ hk => hk.1.2)⟩
              have n3_ : Aside0 (((w94.setCell ⟨gb170, 3, none⟩ (.slice Ao95 t190.length co95)).setCell ⟨gb170, 4, none⟩ (.string (rdOf ByteArray.empty t181 3))).heap[gb166]? = some (.cells #[.int .i64 0, .int .i64 0, .int .i64 0, .slice none 0 0, .string (⟨#[]⟩ : ByteArray), .string (⟨#[]⟩ : ByteArray)] 24 (0, 0))) := ⟨by refine Sq.bk ?_; refine blk_far ?_ NB166_170.out _; refine Sq.bk ?_; refine blk_far ?_ NB166_170.out _; exact Sq.bk BK166.out⟩
              have n4_ : Aside0 (((w94.setCell ⟨gb170, 3, none⟩ (.slice Ao95 t190.length co95)).setCell ⟨gb170, 4, none⟩ (.string (rdOf ByteArray.empty t181 3))).heap[gb170]? = some (.cells #[.int .i64 x171000_1, .int .i64 t187, .int .i64 0, .slice Ao95 t190.length co95, .string (rdOf ByteArray.empty t181 3), .string t182] 24 (0, 0))) := ⟨by refine Sq.bk ?_; refine blk_put (cs := #[.int .i64 x171000_1, .int .i64 t187, .int .i64 0, .slice Ao95 t190.length co95, .string (⟨#[]⟩ : ByteArray), .string t182]) ?_ 4 _ rfl; refine Sq.bk ?_; refine blk_put (cs := #[.int .i64 x171000_1, .int .i64 t187, .int .i64 0, .slice Ao5 y167.length co5, .string (⟨#[]⟩ : ByteArray), .string t182]) ?_ 3 _ rfl; exact Sq.bk BK170.out⟩
              have n5_ : Aside0 (Below w.heap.size w ((w94.setCell ⟨gb170, 3, none⟩ (.slice Ao95 t190.length co95)).setCell ⟨gb170, 4, none⟩ (.string (rdOf ByteArray.empty t181 3)))) := ⟨by repeat (first | (with_reducible first | exact HB.out | apply below_alloc | apply pw_below_drewN | apply below_drew1 | refine below_set ?_ GE166.out | refine below_set ?_ GE170.out) | exact HB.out)⟩
              (try clear HO_9)
              (try clear HO_171003)
              (try clear HO193)
              (try clear BK166)
              (try clear BK170)
              (try clear HB)
              generalize ((w94.setCell ⟨gb170, 3, none⟩ (.slice Ao95 t190.length co95)).setCell ⟨gb170, 4, none⟩ (.string (rdOf ByteArray.empty t181 3))) = w98 at n0_ n1_ n2_ n3_ n4_ n5_ ⊢
              have HO_9 := n0_
              have HO_171003 := n1_
              have HO193 := n2_
              have BK166 := n3_
              have BK170 := n4_
              have HB := n5_
              clear n0_ n1_ n2_ n3_ n4_ n5_
              refine reg30a NB170_166.out BK166.out BK170.out (Kd.R_mono HO193.out (fun _ _ => trivial)) HB.out GE166.out (fun _ _ _ _ _ h => h) ?_
              intro z118_ z119_ z120_ z121_ z122_ z123_ z124_ z125_ z126_ wz_ bz_ oz_ hz_
              have BZ_ := Aside0.mk bz_
              have OZ_ := Aside0.mk oz_
              have HZ_ := Aside0.mk hz_
              clear bz_ oz_ hz_
              try go_wp2
              refine bodyPost_ret (results_ct rfl _ _ gb166 24 #[.int .i64 x171000_1, .int .i64 t187, .int .i64 0, .slice Ao95 t190.length co95, .string (rdOf ByteArray.empty t181 3), .string t182] (0, 0) _ rfl BZ_.out Tryz.underlying24 rfl (by kernel_rfl)) rfl ?_
              exact ⟨_, by first | rfl | (simp [errW_none, errW_some] <;> rfl) | (simp [*, errW_none, errW_some] <;> rfl), OZ_.out, HZ_.out⟩
            ·rw [if_neg c65] at H
             exact absurd H (by simp)
           ·rw [if_neg c64] at H
            have c64b0 : (t179 == 4) = false := beq_eq_false_iff_ne.mpr c64
            have c64b1 : (t179 != 4) = true := bne_iff_ne.mpr c64
            by_cases c106 : t191 = true
            ·subst c106
             first | rw [if_pos rfl] at H | rw [if_pos trivial] at H
             try dsimp -failIfUnchanged -simprocs only at H
             by_cases c107 : t188 = true
             ·subst c107
              first | rw [if_pos rfl] at H | rw [if_pos trivial] at H
              try dsimp -failIfUnchanged -simprocs only at H
              replace H := Option.bind_eq_some_iff.mp H
              obtain ⟨t196, A1080, H⟩ := H
              try dsimp -failIfUnchanged -simprocs only at H
              have A108 := Aside0.mk A1080
              clear A1080
              simp only [Option.some.injEq, Prod.mk.injEq] at H
              obtain ⟨rfl, rfl, rfl, rfl, rfl, rfl, rfl⟩ := H
              have p189 : 0 ≤ (2 : Int) := (by omega)
              have q189 : 2 < (t181.length : Int) := of_decide_eq_true (by first | (with_reducible assumption) | assumption)
              obtain ⟨ad189, e189, hx189_0⟩ := Kd.at_string (Kd.R_reads' HO_9.out).2.2 2 p189 q189
              obtain rfl : ad186 = ad189 := (by injection e189)
              (try simp only [show (2 : Int).toNat = 2 from rfl, Nat.reduceMul, Nat.reduceEqDiff, Go.Addr.add, ↓reduceIte] at hx189_0)
              have qi189 : (2 < t181.length) = True := eq_true (by omega)
              (try rw [show ((2 : Int)).toNat = 2 from rfl] at hx189_0)
              replace p189 := eq_true p189
              replace q189 := eq_true q189
              try go_wp2_with (first | ((with_reducible refine gate_callee (f := 19) rfl ?_); refine Sq.goM (some 91) Tryz.func19 #[.string (rdOf ByteArray.empty t181 2)] ?_; (with_reducible refine (spec_l12ReadPath.calls kj50 (rdOf ByteArray.empty t181 2) t190 true _ A63.out).mono ?_); rintro e w109 ⟨v192, rfl, ho0, hb⟩; refine ⟨_, rfl, ?_⟩; have n0_ := Aside0.mk (Kd.R_below (by exact Sq.rk HO_9.out) hb); have n1_ := Aside0.mk (Kd.R_elder' (by exact Sq.rk HO_171003.out) (Kd.R_base ho0) hb); have n2_ := Aside0.mk (Kd.R_lower (Kd.R_new' ho0 (Kd.R_lt (by exact Sq.rk HO_171003.out))) (below_size (by repeat (first | (with_reducible first | exact HB.out | apply below_alloc | apply pw_below_drewN | apply below_drew1 | refine below_set ?_ GE166.out | refine below_set ?_ GE170.out) | exact HB.out)))); have n3_ := Aside0.mk (blk_below (g := gb166) (o := .cells #[.int .i64 0, .int .i64 0, .int .i64 0, .slice none 0 0, .string (⟨#[]⟩ : ByteArray), .string (⟨#[]⟩ : ByteArray)] 24 (0, 0)) (by exact Sq.bk BK166.out) hb); have n4_ := Aside0.mk (blk_below (g := gb170) (o := .cells #[.int .i64 x171000_1, .int .i64 t187, .int .i64 0, .slice Ao5 y167.length co5, .string (⟨#[]⟩ : ByteArray), .string t182] 24 (0, 0)) (by exact Sq.bk BK170.out) hb); have n5_ := Aside0.mk (below_step (by repeat (first | (with_reducible first | exact HB.out | apply below_alloc | apply pw_below_drewN | apply below_drew1 | refine below_set ?_ GE166.out | refine below_set ?_ GE170.out) | exact HB.out)) hb); clear HO_9; clear HO_171003; clear BK166; clear BK170; clear HB; have HO_9 := n0_; have HO_171003 := n1_; have HO193 := n2_; have BK166 := n3_; have BK170 := n4_; have HB := n5_; clear n0_ n1_ n2_ n3_ n4_ n5_; (try clear hb); (try clear hb2); (try clear hk); (try clear hi); (try clear ho0); obtain ⟨Ao110, co110, eo110⟩ := Kd.R_slice HO193.out; subst eo110; have hnb111 := NB170_166.out; have hnc111 := NB166_170.out; obtain ⟨hcz112_0, hcz112_1, hcz112_2, hcz112_3, hcz112_4, hcz112_5⟩ := Sq.c6 BK170.out; have hfz112_0 := Sq.fz BK170.out))
              have n0_ : Aside0 (Kd.R Kd.string 9 (w109.setCell ⟨gb170, 3, none⟩ (.slice Ao110 t190.length co110)) w.heap.size (fun _ => True) (.slice (some ad186) t181.length co56) t181) := ⟨by refine Sq.rk ?_; exact Kd.R_mono (Kd.R_far (p := ⟨gb170, 3, none⟩) (Kd.R_types HO_9.out BK170.out (by decide)) (fun _ hk => hk.2) (.slice Ao110 t190.length co110)) (fun _ hk => trivial)⟩
              have n1_ : Aside0 (Kd.R (Kd.int .i64) 3 (w109.setCell ⟨gb170, 3, none⟩ (.slice Ao110 t190.length co110)) w.heap.size (fun k_ => some k_ ≠ (.slice Ao110 t190.length co110 : Value).ownBlock) (.slice Ao5 y167.length co5) y167) := ⟨by refine Sq.rk ?_; exact Kd.R_mono (Kd.R_far (p := ⟨gb170, 3, none⟩) (Kd.R_types HO_171003.out BK170.out (by decide)) (fun _ hk => hk.2) (.slice Ao110 t190.length co110)) (fun _ hk => hk.1.2)⟩
              have n2_ : Aside0 (Kd.R (Kd.int .i64) 3 (w109.setCell ⟨gb170, 3, none⟩ (.slice Ao110 t190.length co110)) w.heap.size (fun k_ => some k_ ≠ (.slice Ao5 y167.length co5 : Value).ownBlock) (.slice Ao110 t190.length co110) t190) := ⟨by refine Sq.rk ?_; exact Kd.R_mono (Kd.R_far (p := ⟨gb170, 3, none⟩) (Kd.R_types HO193.out BK170.out (by decide)) (fun _ hk => hk.2) (.slice Ao110 t190.length co110)) (fun _ hk => hk.1.2)⟩
              have n3_ : Aside0 ((w109.setCell ⟨gb170, 3, none⟩ (.slice Ao110 t190.length co110)).heap[gb166]? = some (.cells #[.int .i64 0, .int .i64 0, .int .i64 0, .slice none 0 0, .string (⟨#[]⟩ : ByteArray), .string (⟨#[]⟩ : ByteArray)] 24 (0, 0))) := ⟨by refine Sq.bk ?_; refine blk_far ?_ NB166_170.out _; exact Sq.bk BK166.out⟩
              have n4_ : Aside0 ((w109.setCell ⟨gb170, 3, none⟩ (.slice Ao110 t190.length co110)).heap[gb170]? = some (.cells #[.int .i64 x171000_1, .int .i64 t187, .int .i64 0, .slice Ao110 t190.length co110, .string (⟨#[]⟩ : ByteArray), .string t182] 24 (0, 0))) := ⟨by refine Sq.bk ?_; refine blk_put (cs := #[.int .i64 x171000_1, .int .i64 t187, .int .i64 0, .slice Ao5 y167.length co5, .string (⟨#[]⟩ : ByteArray), .string t182]) ?_ 3 _ rfl; exact Sq.bk BK170.out⟩
              have n5_ : Aside0 (Below w.heap.size w (w109.setCell ⟨gb170, 3, none⟩ (.slice Ao110 t190.length co110))) := ⟨by repeat (first | (with_reducible first | exact HB.out | apply below_alloc | apply pw_below_drewN | apply below_drew1 | refine below_set ?_ GE166.out | refine below_set ?_ GE170.out) | exact HB.out)⟩
              (try clear HO_9)
              (try clear HO_171003)
              (try clear HO193)
              (try clear BK166)
              (try clear BK170)
              (try clear HB)
              generalize (w109.setCell ⟨gb170, 3, none⟩ (.slice Ao110 t190.length co110)) = w113 at n0_ n1_ n2_ n3_ n4_ n5_ ⊢
              have HO_9 := n0_
              have HO_171003 := n1_
              have HO193 := n2_
              have BK166 := n3_
              have BK170 := n4_
              have HB := n5_
              clear n0_ n1_ n2_ n3_ n4_ n5_
              refine reg30c A108.out NB170_166.out BK166.out BK170.out (Kd.R_mono HO193.out (fun _ _ => trivial)) HB.out GE166.out (fun _ _ _ _ _ h => h) ?_
              intro z118_ z119_ z120_ z121_ z122_ z123_ z124_ z125_ z126_ wz_ bz_ oz_ hz_
              have BZ_ := Aside0.mk bz_
              have OZ_ := Aside0.mk oz_
              have HZ_ := Aside0.mk hz_
              clear bz_ oz_ hz_
              try go_wp2
              refine bodyPost_ret (results_ct rfl _ _ gb166 24 #[.int .i64 x171000_1, .int .i64 t187, .int .i64 0, .slice Ao110 t190.length co110, .string (⟨#[]⟩ : ByteArray), .string t182] (0, 0) _ rfl BZ_.out Tryz.underlying24 rfl (by kernel_rfl)) rfl ?_
              exact ⟨_, by first | rfl | (simp [errW_none, errW_some] <;> rfl) | (simp [*, errW_none, errW_some] <;> rfl), OZ_.out, HZ_.out⟩
             ·replace c107 := Bool.eq_false_iff.mpr c107
              subst c107
              rw [if_neg (show ¬ (false = true) by decide)] at H
              try dsimp -failIfUnchanged -simprocs only at H
              simp only [Option.some.injEq, Prod.mk.injEq] at H
              obtain ⟨rfl, rfl, rfl, rfl, rfl, rfl, rfl⟩ := H
              have p189 : 0 ≤ (2 : Int) := (by omega)
              have q189 : 2 < (t181.length : Int) := of_decide_eq_true (by first | (with_reducible assumption) | assumption)
              obtain ⟨ad189, e189, hx189_0⟩ := Kd.at_string (Kd.R_reads' HO_9.out).2.2 2 p189 q189
              obtain rfl : ad186 = ad189 := (by injection e189)
              (try simp only [show (2 : Int).toNat = 2 from rfl, Nat.reduceMul, Nat.reduceEqDiff, Go.Addr.add, ↓reduceIte] at hx189_0)
              have qi189 : (2 < t181.length) = True := eq_true (by omega)
              (try rw [show ((2 : Int)).toNat = 2 from rfl] at hx189_0)
              replace p189 := eq_true p189
              replace q189 := eq_true q189
              try go_wp2_with (first | ((with_reducible refine gate_callee (f := 19) rfl ?_); refine Sq.goM (some 91) Tryz.func19 #[.string (rdOf ByteArray.empty t181 2)] ?_; (with_reducible refine (spec_l12ReadPath.calls kj50 (rdOf ByteArray.empty t181 2) t190 true _ A63.out).mono ?_); rintro e w122 ⟨v192, rfl, ho0, hb⟩; refine ⟨_, rfl, ?_⟩; have n0_ := Aside0.mk (Kd.R_below (by exact Sq.rk HO_9.out) hb); have n1_ := Aside0.mk (Kd.R_elder' (by exact Sq.rk HO_171003.out) (Kd.R_base ho0) hb); have n2_ := Aside0.mk (Kd.R_lower (Kd.R_new' ho0 (Kd.R_lt (by exact Sq.rk HO_171003.out))) (below_size (by repeat (first | (with_reducible first | exact HB.out | apply below_alloc | apply pw_below_drewN | apply below_drew1 | refine below_set ?_ GE166.out | refine below_set ?_ GE170.out) | exact HB.out)))); have n3_ := Aside0.mk (blk_below (g := gb166) (o := .cells #[.int .i64 0, .int .i64 0, .int .i64 0, .slice none 0 0, .string (⟨#[]⟩ : ByteArray), .string (⟨#[]⟩ : ByteArray)] 24 (0, 0)) (by exact Sq.bk BK166.out) hb); have n4_ := Aside0.mk (blk_below (g := gb170) (o := .cells #[.int .i64 x171000_1, .int .i64 t187, .int .i64 0, .slice Ao5 y167.length co5, .string (⟨#[]⟩ : ByteArray), .string t182] 24 (0, 0)) (by exact Sq.bk BK170.out) hb); have n5_ := Aside0.mk (below_step (by repeat (first | (with_reducible first | exact HB.out | apply below_alloc | apply pw_below_drewN | apply below_drew1 | refine below_set ?_ GE166.out | refine below_set ?_ GE170.out) | exact HB.out)) hb); clear HO_9; clear HO_171003; clear BK166; clear BK170; clear HB; have HO_9 := n0_; have HO_171003 := n1_; have HO193 := n2_; have BK166 := n3_; have BK170 := n4_; have HB := n5_; clear n0_ n1_ n2_ n3_ n4_ n5_; (try clear hb); (try clear hb2); (try clear hk); (try clear hi); (try clear ho0); obtain ⟨Ao123, co123, eo123⟩ := Kd.R_slice HO193.out; subst eo123; have hnb124 := NB170_166.out; have hnc124 := NB166_170.out; obtain ⟨hcz125_0, hcz125_1, hcz125_2, hcz125_3, hcz125_4, hcz125_5⟩ := Sq.c6 BK170.out; have hfz125_0 := Sq.fz BK170.out))
              have n0_ : Aside0 (Kd.R Kd.string 9 (w122.setCell ⟨gb170, 3, none⟩ (.slice Ao123 t190.length co123)) w.heap.size (fun _ => True) (.slice (some ad186) t181.length co56) t181) := ⟨by refine Sq.rk ?_; exact Kd.R_mono (Kd.R_far (p := ⟨gb170, 3, none⟩) (Kd.R_types HO_9.out BK170.out (by decide)) (fun _ hk => hk.2) (.slice Ao123 t190.length co123)) (fun _ hk => trivial)⟩
              have n1_ : Aside0 (Kd.R (Kd.int .i64) 3 (w122.setCell ⟨gb170, 3, none⟩ (.slice Ao123 t190.length co123)) w.heap.size (fun k_ => some k_ ≠ (.slice Ao123 t190.length co123 : Value).ownBlock) (.slice Ao5 y167.length co5) y167) := ⟨by refine Sq.rk ?_; exact Kd.R_mono (Kd.R_far (p := ⟨gb170, 3, none⟩) (Kd.R_types HO_171003.out BK170.out (by decide)) (fun _ hk => hk.2) (.slice Ao123 t190.length co123)) (fun _ hk => hk.1.2)⟩
              have n2_ : Aside0 (Kd.R (Kd.int .i64) 3 (w122.setCell ⟨gb170, 3, none⟩ (.slice Ao123 t190.length co123)) w.heap.size (fun k_ => some k_ ≠ (.slice Ao5 y167.length co5 : Value).ownBlock) (.slice Ao123 t190.length co123) t190) := ⟨by refine Sq.rk ?_; exact Kd.R_mono (Kd.R_far (p := ⟨gb170, 3, none⟩) (Kd.R_types HO193.out BK170.out (by decide)) (fun _ hk => hk.2) (.slice Ao123 t190.length co123)) (fun _ hk => hk.1.2)⟩
              have n3_ : Aside0 ((w122.setCell ⟨gb170, 3, none⟩ (.slice Ao123 t190.length co123)).heap[gb166]? = some (.cells #[.int .i64 0, .int .i64 0, .int .i64 0, .slice none 0 0, .string (⟨#[]⟩ : ByteArray), .string (⟨#[]⟩ : ByteArray)] 24 (0, 0))) := ⟨by refine Sq.bk ?_; refine blk_far ?_ NB166_170.out _; exact Sq.bk BK166.out⟩
              have n4_ : Aside0 ((w122.setCell ⟨gb170, 3, none⟩ (.slice Ao123 t190.length co123)).heap[gb170]? = some (.cells #[.int .i64 x171000_1, .int .i64 t187, .int .i64 0, .slice Ao123 t190.length co123, .string (⟨#[]⟩ : ByteArray), .string t182] 24 (0, 0))) := ⟨by refine Sq.bk ?_; refine blk_put (cs := #[.int .i64 x171000_1, .int .i64 t187, .int .i64 0, .slice Ao5 y167.length co5, .string (⟨#[]⟩ : ByteArray), .string t182]) ?_ 3 _ rfl; exact Sq.bk BK170.out⟩
              have n5_ : Aside0 (Below w.heap.size w (w122.setCell ⟨gb170, 3, none⟩ (.slice Ao123 t190.length co123))) := ⟨by repeat (first | (with_reducible first | exact HB.out | apply below_alloc | apply pw_below_drewN | apply below_drew1 | refine below_set ?_ GE166.out | refine below_set ?_ GE170.out) | exact HB.out)⟩
              (try clear HO_9)
              (try clear HO_171003)
              (try clear HO193)
              (try clear BK166)
              (try clear BK170)
              (try clear HB)
              generalize (w122.setCell ⟨gb170, 3, none⟩ (.slice Ao123 t190.length co123)) = w126 at n0_ n1_ n2_ n3_ n4_ n5_ ⊢
              have HO_9 := n0_
              have HO_171003 := n1_
              have HO193 := n2_
              have BK166 := n3_
              have BK170 := n4_
              have HB := n5_
              clear n0_ n1_ n2_ n3_ n4_ n5_
              refine reg30b NB170_166.out BK166.out BK170.out (Kd.R_mono HO193.out (fun _ _ => trivial)) HB.out GE166.out (fun _ _ _ _ _ h => h) ?_
              intro z118_ z119_ z120_ z121_ z122_ z123_ z124_ z125_ z126_ wz_ bz_ oz_ hz_
              have BZ_ := Aside0.mk bz_
              have OZ_ := Aside0.mk oz_
              have HZ_ := Aside0.mk hz_
              clear bz_ oz_ hz_
              try go_wp2
              refine bodyPost_ret (results_ct rfl _ _ gb166 24 #[.int .i64 x171000_1, .int .i64 t187, .int .i64 0, .slice Ao123 t190.length co123, .string (⟨#[]⟩ : ByteArray), .string t182] (0, 0) _ rfl BZ_.out Tryz.underlying24 rfl (by kernel_rfl)) rfl ?_
              exact ⟨_, by first | rfl | (simp [errW_none, errW_some] <;> rfl) | (simp [*, errW_none, errW_some] <;> rfl), OZ_.out, HZ_.out⟩
            ·replace c106 := Bool.eq_false_iff.mpr c106
             subst c106
             rw [if_neg (show ¬ (false = true) by decide)] at H
             try dsimp -failIfUnchanged -simprocs only at H
             simp only [Option.some.injEq, Prod.mk.injEq] at H
             obtain ⟨rfl, rfl, rfl, rfl, rfl, rfl, rfl⟩ := H
             have p189 : 0 ≤ (2 : Int) := (by omega)
             have q189 : 2 < (t181.length : Int) := of_decide_eq_true (by first | (with_reducible assumption) | assumption)
             obtain ⟨ad189, e189, hx189_0⟩ := Kd.at_string (Kd.R_reads' HO_9.out).2.2 2 p189 q189
             obtain rfl : ad186 = ad189 := (by injection e189)
             (try simp only [show (2 : Int).toNat = 2 from rfl, Nat.reduceMul, Nat.reduceEqDiff, Go.Addr.add, ↓reduceIte] at hx189_0)
             have qi189 : (2 < t181.length) = True := eq_true (by omega)
             (try rw [show ((2 : Int)).toNat = 2 from rfl] at hx189_0)
             replace p189 := eq_true p189
             replace q189 := eq_true q189
             try go_wp2_with (first | ((with_reducible refine gate_callee (f := 19) rfl ?_); refine Sq.goM (some 91) Tryz.func19 #[.string (rdOf ByteArray.empty t181 2)] ?_; (with_reducible refine (spec_l12ReadPath.calls kj50 (rdOf ByteArray.empty t181 2) t190 false _ A63.out).mono ?_); rintro e w134 ⟨v192, rfl, ho0, hb⟩; refine ⟨_, rfl, ?_⟩; have n0_ := Aside0.mk (Kd.R_below (by exact Sq.rk HO_9.out) hb); have n1_ := Aside0.mk (Kd.R_elder' (by exact Sq.rk HO_171003.out) (Kd.R_base ho0) hb); have n2_ := Aside0.mk (Kd.R_lower (Kd.R_new' ho0 (Kd.R_lt (by exact Sq.rk HO_171003.out))) (below_size (by repeat (first | (with_reducible first | exact HB.out | apply below_alloc | apply pw_below_drewN | apply below_drew1 | refine below_set ?_ GE166.out | refine below_set ?_ GE170.out) | exact HB.out)))); have n3_ := Aside0.mk (blk_below (g := gb166) (o := .cells #[.int .i64 0, .int .i64 0, .int .i64 0, .slice none 0 0, .string (⟨#[]⟩ : ByteArray), .string (⟨#[]⟩ : ByteArray)] 24 (0, 0)) (by exact Sq.bk BK166.out) hb); have n4_ := Aside0.mk (blk_below (g := gb170) (o := .cells #[.int .i64 x171000_1, .int .i64 t187, .int .i64 0, .slice Ao5 y167.length co5, .string (⟨#[]⟩ : ByteArray), .string t182] 24 (0, 0)) (by exact Sq.bk BK170.out) hb); have n5_ := Aside0.mk (below_step (by repeat (first | (with_reducible first | exact HB.out | apply below_alloc | apply pw_below_drewN | apply below_drew1 | refine below_set ?_ GE166.out | refine below_set ?_ GE170.out) | exact HB.out)) hb); clear HO_9; clear HO_171003; clear BK166; clear BK170; clear HB; have HO_9 := n0_; have HO_171003 := n1_; have HO193 := n2_; have BK166 := n3_; have BK170 := n4_; have HB := n5_; clear n0_ n1_ n2_ n3_ n4_ n5_; (try clear hb); (try clear hb2); (try clear hk); (try clear hi); (try clear ho0); obtain ⟨Ao135, co135, eo135⟩ := Kd.R_slice HO193.out; subst eo135; have hnb136 := NB170_166.out; have hnc136 := NB166_170.out; obtain ⟨hcz137_0, hcz137_1, hcz137_2, hcz137_3, hcz137_4, hcz137_5⟩ := Sq.c6 BK170.out; have hfz137_0 := Sq.fz BK170.out))
             have n0_ : Aside0 (Kd.R Kd.string 9 (w134.setCell ⟨gb170, 3, none⟩ (.slice Ao135 t190.length co135)) w.heap.size (fun _ => True) (.slice (some ad186) t181.length co56) t181) := ⟨by refine Sq.rk ?_; exact Kd.R_mono (Kd.R_far (p := ⟨gb170, 3, none⟩) (Kd.R_types HO_9.out BK170.out (by decide)) (fun _ hk => hk.2) (.slice Ao135 t190.length co135)) (fun _ hk => trivial)⟩
             have n1_ : Aside0 (Kd.R (Kd.int .i64) 3 (w134.setCell ⟨gb170, 3, none⟩ (.slice Ao135 t190.length co135)) w.heap.size (fun k_ => some k_ ≠ (.slice Ao135 t190.length co135 : Value).ownBlock) (.slice Ao5 y167.length co5) y167) := ⟨by refine Sq.rk ?_; exact Kd.R_mono (Kd.R_far (p := ⟨gb170, 3, none⟩) (Kd.R_types HO_171003.out BK170.out (by decide)) (fun _ hk => hk.2) (.slice Ao135 t190.length co135)) (fun _ hk => hk.1.2)⟩
             have n2_ : Aside0 (Kd.R (Kd.int .i64) 3 (w134.setCell ⟨gb170, 3, none⟩ (.slice Ao135 t190.length co135)) w.heap.size (fun k_ => some k_ ≠ (.slice Ao5 y167.length co5 : Value).ownBlock) (.slice Ao135 t190.length co135) t190) := ⟨by refine Sq.rk ?_; exact Kd.R_mono (Kd.R_far (p := ⟨gb170, 3, none⟩) (Kd.R_types HO193.out BK170.out (by decide)) (fun _ hk => hk.2) (.slice Ao135 t190.length co135)) (fun _ hk => hk.1.2)⟩
             have n3_ : Aside0 ((w134.setCell ⟨gb170, 3, none⟩ (.slice Ao135 t190.length co135)).heap[gb166]? = some (.cells #[.int .i64 0, .int .i64 0, .int .i64 0, .slice none 0 0, .string (⟨#[]⟩ : ByteArray), .string (⟨#[]⟩ : ByteArray)] 24 (0, 0))) := ⟨by refine Sq.bk ?_; refine blk_far ?_ NB166_170.out _; exact Sq.bk BK166.out⟩
             have n4_ : Aside0 ((w134.setCell ⟨gb170, 3, none⟩ (.slice Ao135 t190.length co135)).heap[gb170]? = some (.cells #[.int .i64 x171000_1, .int .i64 t187, .int .i64 0, .slice Ao135 t190.length co135, .string (⟨#[]⟩ : ByteArray), .string t182] 24 (0, 0))) := ⟨by refine Sq.bk ?_; refine blk_put (cs := #[.int .i64 x171000_1, .int .i64 t187, .int .i64 0, .slice Ao5 y167.length co5, .string (⟨#[]⟩ : ByteArray), .string t182]) ?_ 3 _ rfl; exact Sq.bk BK170.out⟩
             have n5_ : Aside0 (Below w.heap.size w (w134.setCell ⟨gb170, 3, none⟩ (.slice Ao135 t190.length co135))) := ⟨by repeat (first | (with_reducible first | exact HB.out | apply below_alloc | apply pw_below_drewN | apply below_drew1 | refine below_set ?_ GE166.out | refine below_set ?_ GE170.out) | exact HB.out)⟩
             (try clear HO_9)
             (try clear HO_171003)
             (try clear HO193)
             (try clear BK166)
             (try clear BK170)
             (try clear HB)
             generalize (w134.setCell ⟨gb170, 3, none⟩ (.slice Ao135 t190.length co135)) = w138 at n0_ n1_ n2_ n3_ n4_ n5_ ⊢
             have HO_9 := n0_
             have HO_171003 := n1_
             have HO193 := n2_
             have BK166 := n3_
             have BK170 := n4_
             have HB := n5_
             clear n0_ n1_ n2_ n3_ n4_ n5_
             refine reg30a NB170_166.out BK166.out BK170.out (Kd.R_mono HO193.out (fun _ _ => trivial)) HB.out GE166.out (fun _ _ _ _ _ h => h) ?_
             intro z118_ z119_ z120_ z121_ z122_ z123_ z124_ z125_ z126_ wz_ bz_ oz_ hz_
             have BZ_ := Aside0.mk bz_
             have OZ_ := Aside0.mk oz_
             have HZ_ := Aside0.mk hz_
             clear bz_ oz_ hz_
             try go_wp2
             refine bodyPost_ret (results_ct rfl _ _ gb166 24 #[.int .i64 x171000_1, .int .i64 t187, .int .i64 0, .slice Ao135 t190.length co135, .string (⟨#[]⟩ : ByteArray), .string t182] (0, 0) _ rfl BZ_.out Tryz.underlying24 rfl (by kernel_rfl)) rfl ?_
             exact ⟨_, by first | rfl | (simp [errW_none, errW_some] <;> rfl) | (simp [*, errW_none, errW_some] <;> rfl), OZ_.out, HZ_.out⟩
          ·rw [if_neg c62] at H
           exact absurd H (by simp)
         ·replace c61 := Bool.eq_false_iff.mpr c61
          subst c61
          rw [if_neg (show ¬ (false = true) by decide)] at H
          try dsimp -failIfUnchanged -simprocs only at H
          have HC146 := Aside0.mk H
          clear H
          go_upto_if 95 with (fail)
          go_cut [95] (fun v95 wc => ∃ (kq : Nat) (x95_145 : Bool), v95 = .bool x95_145 ∧ Aside0 (spec_l12ReadCall.j2 kq t179 t181 true t188 x171000_1 x95_145 x171000_1 t187 0 y167 (⟨#[]⟩ : ByteArray) t182 = some (r1, r2, r3, r4, r5, r6, r7)) ∧ Aside0 (kq ≤ kj50) ∧ Aside0 (Kd.R Kd.string 9 wc w.heap.size (fun _ => True) (.slice (some ad186) t181.length co56) t181) ∧ Aside0 (Kd.R (Kd.int .i64) 3 wc w.heap.size (fun _ => True) (.slice Ao5 y167.length co5) y167) ∧ Aside0 (wc.heap[gb166]? = some (.cells #[.int .i64 0, .int .i64 0, .int .i64 0, (.slice none 0 0), .string (⟨#[]⟩ : ByteArray), .string (⟨#[]⟩ : ByteArray)] 24 (0, 0))) ∧ Aside0 (wc.heap[gb170]? = some (.cells #[.int .i64 x171000_1, .int .i64 t187, .int .i64 0, (.slice Ao5 y167.length co5), .string (⟨#[]⟩ : ByteArray), .string t182] 24 (0, 0))) ∧ Aside0 (Below w.heap.size w wc))
          case first =>
           have H := HC146.out
           clear HC146
           by_cases c147 : x171000_1 = 6
           ·rw [if_pos c147] at H
            have c147b0 : (x171000_1 == 6) = true := beq_iff_eq.mpr c147
            have c147b1 : (x171000_1 != 6) = false := bne_eq_false_iff_eq.mpr c147
            clear c147
            (first | rw [c147b0] | (simp only [i64_w, i32_w]; rw [c147b0]) | skip)
            have H' := Aside0.mk H
            clear H
            go_wp2
            go_meet
            case rel => exact ⟨_, ((x171000_1 == 6)), (by first | rfl | (simp; done) | (simp [*]; done) | (generalize ByteArray.toList _ = l_; cases l_ <;> rfl)), H', ⟨by have := HK1.out; have := HJ50.out; first | omega | exact Nat.le_refl _⟩, ⟨by exact Sq.rk HO_9.out⟩, ⟨by exact Sq.rk HO_171003.out⟩, ⟨by exact Sq.bk BK166.out⟩, ⟨by exact Sq.bk BK170.out⟩, ⟨by repeat (first | (with_reducible first | exact HB.out | apply below_alloc | apply pw_below_drewN | apply below_drew1 | refine below_set ?_ GE166.out | refine below_set ?_ GE170.out) | exact HB.out)⟩⟩
           ·rw [if_neg c147] at H
            have c147b0 : (x171000_1 == 6) = false := beq_eq_false_iff_ne.mpr c147
            have c147b1 : (x171000_1 != 6) = true := bne_iff_ne.mpr c147
            (first | rw [c147b0] | (simp only [i64_w, i32_w]; rw [c147b0]) | skip)
            have H' := Aside0.mk H
            clear H
            go_wp2
            go_meet
            case rel => exact ⟨_, ((x171000_1 == 8)), (by first | rfl | (simp; done) | (simp [*]; done) | (generalize ByteArray.toList _ = l_; cases l_ <;> rfl)), H', ⟨by have := HK1.out; have := HJ50.out; first | omega | exact Nat.le_refl _⟩, ⟨by exact Sq.rk HO_9.out⟩, ⟨by exact Sq.rk HO_171003.out⟩, ⟨by exact Sq.bk BK166.out⟩, ⟨by exact Sq.bk BK170.out⟩, ⟨by repeat (first | (with_reducible first | exact HB.out | apply below_alloc | apply pw_below_drewN | apply below_drew1 | refine below_set ?_ GE166.out | refine below_set ?_ GE170.out) | exact HB.out)⟩⟩
          case rest =>
           clear HC146
           try clear c1
           try clear p1
           try clear q1
           try clear hx1
           try clear qi1
           try clear c2
           try clear p2
           try clear c6
           try clear c10
           try clear c11
           try clear c12
           try clear c13
           try clear c14
           try clear p18
           try clear q18
           try clear hx18
           try clear qi18
           try clear c19
           try clear c20
           try clear c61
           try clear c62
           try clear c64
           try clear c64b0
           try clear c64b1
           try clear c65
           try clear c106
           try clear c107
           try clear c111
           try clear c124
           try clear c136
           try clear c147
           try clear c147b0
           try clear c147b1
           try clear hcz112_0
           try clear hcz112_1
           try clear hcz112_2
           try clear hcz112_3
           try clear hcz112_4
           try clear hcz112_5
           try clear hcz125_0
           try clear hcz125_1
           try clear hcz125_2
           try clear hcz125_3
           try clear hcz125_4
           try clear hcz125_5
           try clear hcz137_0
           try clear hcz137_1
           try clear hcz137_2
           try clear hcz137_3
           try clear hcz137_4
           try clear hcz137_5
           try clear hfz112_0
           try clear hfz125_0
           try clear hfz137_0
           try clear hx189_0
           try clear p189
           try clear q189
           obtain ⟨kq, x95_145, rfl, HA, HJ145, HO_9, HO_171003, BK166, BK170, HB⟩ := hcut
           cases kq with
           | zero => exact absurd HA.out (by simp [spec_l12ReadCall.j2])
           | succ kj145 =>
            have H := HA.out
            clear HA
            simp only [spec_l12ReadCall.j2] at H
            by_cases c148 : x95_145 = true
            ·subst c148
             first | rw [if_pos rfl] at H | rw [if_pos trivial] at H
             try dsimp -failIfUnchanged -simprocs only at H
             by_cases c149 : 2 < (t181.length : Int)
             ·rw [if_pos c149] at H
              have c149b0 : decide (2 < (t181.length : Int)) = true := decide_eq_true c149
              have c149b1 : decide (2 < t181.length) = true := decide_eq_true (by omega)
              clear c149
              replace H := Option.bind_eq_some_iff.mp H
              obtain ⟨⟨t198, t199⟩, A1500, H⟩ := H
              try dsimp -failIfUnchanged -simprocs only at H
              have A150 := Aside0.mk A1500
              clear A1500
              by_cases c151 : t179 = 4
              ·rw [if_pos c151] at H
               have c151b0 : (t179 == 4) = true := beq_iff_eq.mpr c151
               have c151b1 : (t179 != 4) = false := bne_eq_false_iff_eq.mpr c151
               clear c151
               by_cases c152 : 3 < (t181.length : Int)
               ·rw [if_pos c152] at H
                have c152b0 : decide (3 < (t181.length : Int)) = true := decide_eq_true c152
                have c152b1 : decide (3 < t181.length) = true := decide_eq_true (by omega)
                clear c152
                by_cases c153 : t199 = true
                ·subst c153
                 first | rw [if_pos rfl] at H | rw [if_pos trivial] at H
                 try dsimp -failIfUnchanged -simprocs only at H
                 by_cases c154 : t188 = true
                 ·subst c154
                  first | rw [if_pos rfl] at H | rw [if_pos trivial] at H
                  try dsimp -failIfUnchanged -simprocs only at H
                  replace H := Option.bind_eq_some_iff.mp H
                  obtain ⟨t201, A1550, H⟩ := H
                  try dsimp -failIfUnchanged -simprocs only at H
                  have A155 := Aside0.mk A1550
                  clear A1550
                  simp only [Option.some.injEq, Prod.mk.injEq] at H
                  obtain ⟨rfl, rfl, rfl, rfl, rfl, rfl, rfl⟩ := H
                  have p197 : 0 ≤ (2 : Int) := (by omega)
                  have q197 : 2 < (t181.length : Int) := of_decide_eq_true (by first | (with_reducible assumption) | assumption)
                  obtain ⟨ad197, e197, hx197_0⟩ := Kd.at_string (Kd.R_reads' HO_9.out).2.2 2 p197 q197
                  obtain rfl : ad186 = ad197 := (by injection e197)
                  (try simp only [show (2 : Int).toNat = 2 from rfl, Nat.reduceMul, Nat.reduceEqDiff, Go.Addr.add, ↓reduceIte] at hx197_0)
                  have qi197 : (2 < t181.length) = True := eq_true (by omega)
                  (try rw [show ((2 : Int)).toNat = 2 from rfl] at hx197_0)
                  replace p197 := eq_true p197
                  replace q197 := eq_true q197
                  try go_wp2_with (first | ((with_reducible refine gate_callee (f := 18) rfl ?_); refine Sq.goM (some 102) Tryz.func18 #[.string (rdOf ByteArray.empty t181 2)] ?_; (with_reducible refine (spec_l00Number.calls kj145 (rdOf ByteArray.empty t181 2) t198 true _ A150.out).mono ?_); rintro e w' ⟨rfl, ⟨nd, rfl⟩⟩; refine ⟨_, rfl, ?_⟩; (try (rw [drewN_self wc]; generalize hq_ : World.drewN wc _ = wc; have n0_ : Aside0 (Kd.R (Kd.int .i64) 3 wc w.heap.size (fun _ => True) (.slice Ao5 y167.length co5) y167) := ⟨by rw [← hq_]; exact (by exact Sq.rk HO_171003.out)⟩; have n1_ : Aside0 (Kd.R Kd.string 9 wc w.heap.size (fun _ => True) (.slice (some ad186) t181.length co56) t181) := ⟨by rw [← hq_]; exact (by exact Sq.rk HO_9.out)⟩; have n2_ : Aside0 (wc.heap[gb166]? = some (.cells #[.int .i64 0, .int .i64 0, .int .i64 0, .slice none 0 0, .string (⟨#[]⟩ : ByteArray), .string (⟨#[]⟩ : ByteArray)] 24 (0, 0))) := ⟨by rw [← hq_]; exact (by exact Sq.bk BK166.out)⟩; have n3_ : Aside0 (wc.heap[gb170]? = some (.cells #[.int .i64 x171000_1, .int .i64 t187, .int .i64 0, .slice Ao5 y167.length co5, .string (⟨#[]⟩ : ByteArray), .string t182] 24 (0, 0))) := ⟨by rw [← hq_]; exact (by exact Sq.bk BK170.out)⟩; have n4_ : Aside0 (Below w.heap.size w wc) := ⟨by rw [← hq_]; exact (by repeat (first | (with_reducible first | exact HB.out | apply below_alloc | apply pw_below_drewN | apply below_drew1 | refine below_set ?_ GE166.out | refine below_set ?_ GE170.out) | exact HB.out))⟩; clear HO_171003 HO_9 BK166 BK170 HB hq_; have HO_171003 := n0_; have HO_9 := n1_; have BK166 := n2_; have BK170 := n3_; have HB := n4_; clear n0_ n1_ n2_ n3_ n4_)); have hnb156 := NB170_166.out; have hnc156 := NB166_170.out; obtain ⟨hcz157_0, hcz157_1, hcz157_2, hcz157_3, hcz157_4, hcz157_5⟩ := Sq.c6 BK170.out; have hfz157_0 := Sq.fz BK170.out; have p200 : 0 ≤ (3 : Int) := (by omega); have q200 : 3 < (t181.length : Int) := of_decide_eq_true (by first | (with_reducible assumption) | assumption); obtain ⟨ad200, e200, hx200_0⟩ := Kd.at_string (Kd.R_reads' HO_9.out).2.2 3 p200 q200; obtain rfl : ad186 = ad200 := (by injection e200); (try simp only [show (3 : Int).toNat = 3 from rfl, Nat.reduceMul, Nat.reduceEqDiff, Go.Addr.add, ↓reduceIte] at hx200_0); have qi200 : (3 < t181.length) = True := eq_true (by omega); (try rw [show ((3 : Int)).toNat = 3 from rfl] at hx200_0); have hn200_0 : ad186.block ≠ gb170 := Kd.own_blk (Kd.R_ne HO_9.out BK170.out (by decide)); replace hx200_0 := (cell_far (p := ⟨gb170, 2, none⟩) (by first | (rw [add_block]; exact hn200_0) | (show (Addr.add _ _).block ≠ _; rw [add_block]; exact hn200_0) | exact hn200_0) (.int .i64 t198)).trans hx200_0; clear hn200_0; replace p200 := eq_true p200; replace q200 := eq_true q200))
                  have n0_ : Aside0 (Kd.R Kd.string 9 ((wc.setCell ⟨gb170, 2, none⟩ (.int .i64 t198)).setCell ⟨gb170, 4, none⟩ (.string (rdOf ByteArray.empty t181 3))) w.heap.size (fun _ => True) (.slice (some ad186) t181.length co56) t181) := ⟨by refine Sq.rk ?_; exact Kd.R_mono (Kd.R_far (p := ⟨gb170, 4, none⟩) (Kd.R_far (p := ⟨gb170, 2, none⟩) (Kd.R_types HO_9.out BK170.out (by decide)) (fun _ hk => hk.2) (.int .i64 t198)) (fun _ hk => hk.2) (.string (rdOf ByteArray.empty t181 3))) (fun _ hk => trivial)⟩
                  have n1_ : Aside0 (Kd.R (Kd.int .i64) 3 ((wc.setCell ⟨gb170, 2, none⟩ (.int .i64 t198)).setCell ⟨gb170, 4, none⟩ (.string (rdOf ByteArray.empty t181 3))) w.heap.size (fun _ => True) (.slice Ao5 y167.length co5) y167) := ⟨by refine Sq.rk ?_; exact Kd.R_mono (Kd.R_far (p := ⟨gb170, 4, none⟩) (Kd.R_far (p := ⟨gb170, 2, none⟩) (Kd.R_types HO_171003.out BK170.out (by decide)) (fun _ hk => hk.2) (.int .i64 t198)) (fun _ hk => hk.2) (.string (rdOf ByteArray.empty t181 3))) (fun _ hk => trivial)⟩
                  have n2_ : Aside0 (((wc.setCell ⟨gb170, 2, none⟩ (.int .i64 t198)).setCell ⟨gb170, 4, none⟩ (.string (rdOf ByteArray.empty t181 3))).heap[gb166]? = some (.cells #[.int .i64 0, .int .i64 0, .int .i64 0, .slice none 0 0, .string (⟨#[]⟩ : ByteArray), .string (⟨#[]⟩ : ByteArray)] 24 (0, 0))) := ⟨by refine Sq.bk ?_; refine blk_far ?_ NB166_170.out _; refine Sq.bk ?_; refine blk_far ?_ NB166_170.out _; exact Sq.bk BK166.out⟩
                  have n3_ : Aside0 (((wc.setCell ⟨gb170, 2, none⟩ (.int .i64 t198)).setCell ⟨gb170, 4, none⟩ (.string (rdOf ByteArray.empty t181 3))).heap[gb170]? = some (.cells #[.int .i64 x171000_1, .int .i64 t187, .int .i64 t198, .slice Ao5 y167.length co5, .string (rdOf ByteArray.empty t181 3), .string t182] 24 (0, 0))) := ⟨by refine Sq.bk ?_; refine blk_put (cs := #[.int .i64 x171000_1, .int .i64 t187, .int .i64 t198, .slice Ao5 y167.length co5, .string (⟨#[]⟩ : ByteArray), .string t182]) ?_ 4 _ rfl; refine Sq.bk ?_; refine blk_put (cs := #[.int .i64 x171000_1, .int .i64 t187, .int .i64 0, .slice Ao5 y167.length co5, .string (⟨#[]⟩ : ByteArray), .string t182]) ?_ 2 _ rfl; exact Sq.bk BK170.out⟩
                  have n4_ : Aside0 (Below w.heap.size w ((wc.setCell ⟨gb170, 2, none⟩ (.int .i64 t198)).setCell ⟨gb170, 4, none⟩ (.string (rdOf ByteArray.empty t181 3)))) := ⟨by repeat (first | (with_reducible first | exact HB.out | apply below_alloc | apply pw_below_drewN | apply below_drew1 | refine below_set ?_ GE166.out | refine below_set ?_ GE170.out) | exact HB.out)⟩
                  (try clear HO_9)
                  (try clear HO_171003)
                  (try clear BK166)
                  (try clear BK170)
                  (try clear HB)
                  generalize ((wc.setCell ⟨gb170, 2, none⟩ (.int .i64 t198)).setCell ⟨gb170, 4, none⟩ (.string (rdOf ByteArray.empty t181 3))) = w158 at n0_ n1_ n2_ n3_ n4_ ⊢
                  have HO_9 := n0_
                  have HO_171003 := n1_
                  have BK166 := n2_
                  have BK170 := n3_
                  have HB := n4_
                  clear n0_ n1_ n2_ n3_ n4_
                  refine reg30c A155.out NB170_166.out BK166.out BK170.out (Kd.R_mono HO_171003.out (fun _ _ => trivial)) HB.out GE166.out (fun _ _ _ _ _ h => h) ?_
                  intro z118_ z119_ z120_ z121_ z122_ z123_ z124_ z125_ z126_ wz_ bz_ oz_ hz_
                  have BZ_ := Aside0.mk bz_
                  have OZ_ := Aside0.mk oz_
                  have HZ_ := Aside0.mk hz_
                  clear bz_ oz_ hz_
                  try go_wp2
                  refine bodyPost_ret (results_ct rfl _ _ gb166 24 #[.int .i64 x171000_1, .int .i64 t187, .int .i64 t198, .slice Ao5 y167.length co5, .string (rdOf ByteArray.empty t181 3), .string t182] (0, 0) _ rfl BZ_.out Tryz.underlying24 rfl (by kernel_rfl)) rfl ?_
                  exact ⟨_, by first | rfl | (simp [errW_none, errW_some] <;> rfl) | (simp [*, errW_none, errW_some] <;> rfl), OZ_.out, HZ_.out⟩
                 ·replace c154 := Bool.eq_false_iff.mpr c154
                  subst c154
                  rw [if_neg (show ¬ (false = true) by decide)] at H
                  try dsimp -failIfUnchanged -simprocs only at H
                  simp only [Option.some.injEq, Prod.mk.injEq] at H
                  obtain ⟨rfl, rfl, rfl, rfl, rfl, rfl, rfl⟩ := H
                  have p197 : 0 ≤ (2 : Int) := (by omega)
                  have q197 : 2 < (t181.length : Int) := of_decide_eq_true (by first | (with_reducible assumption) | assumption)
                  obtain ⟨ad197, e197, hx197_0⟩ := Kd.at_string (Kd.R_reads' HO_9.out).2.2 2 p197 q197
                  obtain rfl : ad186 = ad197 := (by injection e197)
                  (try simp only [show (2 : Int).toNat = 2 from rfl, Nat.reduceMul, Nat.reduceEqDiff, Go.Addr.add, ↓reduceIte] at hx197_0)
                  have qi197 : (2 < t181.length) = True := eq_true (by omega)
                  (try rw [show ((2 : Int)).toNat = 2 from rfl] at hx197_0)
                  replace p197 := eq_true p197
                  replace q197 := eq_true q197
                  try go_wp2_with (first | ((with_reducible refine gate_callee (f := 18) rfl ?_); refine Sq.goM (some 102) Tryz.func18 #[.string (rdOf ByteArray.empty t181 2)] ?_; (with_reducible refine (spec_l00Number.calls kj145 (rdOf ByteArray.empty t181 2) t198 true _ A150.out).mono ?_); rintro e w' ⟨rfl, ⟨nd, rfl⟩⟩; refine ⟨_, rfl, ?_⟩; (try (rw [drewN_self wc]; generalize hq_ : World.drewN wc _ = wc; have n0_ : Aside0 (Kd.R (Kd.int .i64) 3 wc w.heap.size (fun _ => True) (.slice Ao5 y167.length co5) y167) := ⟨by rw [← hq_]; exact (by exact Sq.rk HO_171003.out)⟩; have n1_ : Aside0 (Kd.R Kd.string 9 wc w.heap.size (fun _ => True) (.slice (some ad186) t181.length co56) t181) := ⟨by rw [← hq_]; exact (by exact Sq.rk HO_9.out)⟩; have n2_ : Aside0 (wc.heap[gb166]? = some (.cells #[.int .i64 0, .int .i64 0, .int .i64 0, .slice none 0 0, .string (⟨#[]⟩ : ByteArray), .string (⟨#[]⟩ : ByteArray)] 24 (0, 0))) := ⟨by rw [← hq_]; exact (by exact Sq.bk BK166.out)⟩; have n3_ : Aside0 (wc.heap[gb170]? = some (.cells #[.int .i64 x171000_1, .int .i64 t187, .int .i64 0, .slice Ao5 y167.length co5, .string (⟨#[]⟩ : ByteArray), .string t182] 24 (0, 0))) := ⟨by rw [← hq_]; exact (by exact Sq.bk BK170.out)⟩; have n4_ : Aside0 (Below w.heap.size w wc) := ⟨by rw [← hq_]; exact (by repeat (first | (with_reducible first | exact HB.out | apply below_alloc | apply pw_below_drewN | apply below_drew1 | refine below_set ?_ GE166.out | refine below_set ?_ GE170.out) | exact HB.out))⟩; clear HO_171003 HO_9 BK166 BK170 HB hq_; have HO_171003 := n0_; have HO_9 := n1_; have BK166 := n2_; have BK170 := n3_; have HB := n4_; clear n0_ n1_ n2_ n3_ n4_)); have hnb167 := NB170_166.out; have hnc167 := NB166_170.out; obtain ⟨hcz168_0, hcz168_1, hcz168_2, hcz168_3, hcz168_4, hcz168_5⟩ := Sq.c6 BK170.out; have hfz168_0 := Sq.fz BK170.out; have p200 : 0 ≤ (3 : Int) := (by omega); have q200 : 3 < (t181.length : Int) := of_decide_eq_true (by first | (with_reducible assumption) | assumption); obtain ⟨ad200, e200, hx200_0⟩ := Kd.at_string (Kd.R_reads' HO_9.out).2.2 3 p200 q200; obtain rfl : ad186 = ad200 := (by injection e200); (try simp only [show (3 : Int).toNat = 3 from rfl, Nat.reduceMul, Nat.reduceEqDiff, Go.Addr.add, ↓reduceIte] at hx200_0); have qi200 : (3 < t181.length) = True := eq_true (by omega); (try rw [show ((3 : Int)).toNat = 3 from rfl] at hx200_0); have hn200_0 : ad186.block ≠ gb170 := Kd.own_blk (Kd.R_ne HO_9.out BK170.out (by decide)); replace hx200_0 := (cell_far (p := ⟨gb170, 2, none⟩) (by first | (rw [add_block]; exact hn200_0) | (show (Addr.add _ _).block ≠ _; rw [add_block]; exact hn200_0) | exact hn200_0) (.int .i64 t198)).trans hx200_0; clear hn200_0; replace p200 := eq_true p200; replace q200 := eq_true q200))
                  have n0_ : Aside0 (Kd.R Kd.string 9 ((wc.setCell ⟨gb170, 2, none⟩ (.int .i64 t198)).setCell ⟨gb170, 4, none⟩ (.string (rdOf ByteArray.empty t181 3))) w.heap.size (fun _ => True) (.slice (some ad186) t181.length co56) t181) := ⟨by refine Sq.rk ?_; exact Kd.R_mono (Kd.R_far (p := ⟨gb170, 4, none⟩) (Kd.R_far (p := ⟨gb170, 2, none⟩) (Kd.R_types HO_9.out BK170.out (by decide)) (fun _ hk => hk.2) (.int .i64 t198)) (fun _ hk => hk.2) (.string (rdOf ByteArray.empty t181 3))) (fun _ hk => trivial)⟩
                  have n1_ : Aside0 (Kd.R (Kd.int .i64) 3 ((wc.setCell ⟨gb170, 2, none⟩ (.int .i64 t198)).setCell ⟨gb170, 4, none⟩ (.string (rdOf ByteArray.empty t181 3))) w.heap.size (fun _ => True) (.slice Ao5 y167.length co5) y167) := ⟨by refine Sq.rk ?_; exact Kd.R_mono (Kd.R_far (p := ⟨gb170, 4, none⟩) (Kd.R_far (p := ⟨gb170, 2, none⟩) (Kd.R_types HO_171003.out BK170.out (by decide)) (fun _ hk => hk.2) (.int .i64 t198)) (fun _ hk => hk.2) (.string (rdOf ByteArray.empty t181 3))) (fun _ hk => trivial)⟩
                  have n2_ : Aside0 (((wc.setCell ⟨gb170, 2, none⟩ (.int .i64 t198)).setCell ⟨gb170, 4, none⟩ (.string (rdOf ByteArray.empty t181 3))).heap[gb166]? = some (.cells #[.int .i64 0, .int .i64 0, .int .i64 0, .slice none 0 0, .string (⟨#[]⟩ : ByteArray), .string (⟨#[]⟩ : ByteArray)] 24 (0, 0))) := ⟨by refine Sq.bk ?_; refine blk_far ?_ NB166_170.out _; refine Sq.bk ?_; refine blk_far ?_ NB166_170.out _; exact Sq.bk BK166.out⟩
                  have n3_ : Aside0 (((wc.setCell ⟨gb170, 2, none⟩ (.int .i64 t198)).setCell ⟨gb170, 4, none⟩ (.string (rdOf ByteArray.empty t181 3))).heap[gb170]? = some (.cells #[.int .i64 x171000_1, .int .i64 t187, .int .i64 t198, .slice Ao5 y167.length co5, .string (rdOf ByteArray.empty t181 3), .string t182] 24 (0, 0))) := ⟨by refine Sq.bk ?_; refine blk_put (cs := #[.int .i64 x171000_1, .int .i64 t187, .int .i64 t198, .slice Ao5 y167.length co5, .string (⟨#[]⟩ : ByteArray), .string t182]) ?_ 4 _ rfl; refine Sq.bk ?_; refine blk_put (cs := #[.int .i64 x171000_1, .int .i64 t187, .int .i64 0, .slice Ao5 y167.length co5, .string (⟨#[]⟩ : ByteArray), .string t182]) ?_ 2 _ rfl; exact Sq.bk BK170.out⟩
                  have n4_ : Aside0 (Below w.heap.size w ((wc.setCell ⟨gb170, 2, none⟩ (.int .i64 t198)).setCell ⟨gb170, 4, none⟩ (.string (rdOf ByteArray.empty t181 3)))) := ⟨by repeat (first | (with_reducible first | exact HB.out | apply below_alloc | apply pw_below_drewN | apply below_drew1 | refine below_set ?_ GE166.out | refine below_set ?_ GE170.out) | exact HB.out)⟩
                  (try clear HO_9)
                  (try clear HO_171003)
                  (try clear BK166)
                  (try clear BK170)
                  (try clear HB)
                  generalize ((wc.setCell ⟨gb170, 2, none⟩ (.int .i64 t198)).setCell ⟨gb170, 4, none⟩ (.string (rdOf ByteArray.empty t181 3))) = w169 at n0_ n1_ n2_ n3_ n4_ ⊢
                  have HO_9 := n0_
                  have HO_171003 := n1_
                  have BK166 := n2_
                  have BK170 := n3_
                  have HB := n4_
                  clear n0_ n1_ n2_ n3_ n4_
                  refine reg30b NB170_166.out BK166.out BK170.out (Kd.R_mono HO_171003.out (fun _ _ => trivial)) HB.out GE166.out (fun _ _ _ _ _ h => h) ?_
                  intro z118_ z119_ z120_ z121_ z122_ z123_ z124_ z125_ z126_ wz_ bz_ oz_ hz_
                  have BZ_ := Aside0.mk bz_
                  have OZ_ := Aside0.mk oz_
                  have HZ_ := Aside0.mk hz_
                  clear bz_ oz_ hz_
                  try go_wp2
                  refine bodyPost_ret (results_ct rfl _ _ gb166 24 #[.int .i64 x171000_1, .int .i64 t187, .int .i64 t198, .slice Ao5 y167.length co5, .string (rdOf ByteArray.empty t181 3), .string t182] (0, 0) _ rfl BZ_.out Tryz.underlying24 rfl (by kernel_rfl)) rfl ?_
                  exact ⟨_, by first | rfl | (simp [errW_none, errW_some] <;> rfl) | (simp [*, errW_none, errW_some] <;> rfl), OZ_.out, HZ_.out⟩
                ·replace c153 := Bool.eq_false_iff.mpr c153
                 subst c153
                 rw [if_neg (show ¬ (false = true) by decide)] at H
                 try dsimp -failIfUnchanged -simprocs only at H
                 simp only [Option.some.injEq, Prod.mk.injEq] at H
                 obtain ⟨rfl, rfl, rfl, rfl, rfl, rfl, rfl⟩ := H
                 have p197 : 0 ≤ (2 : Int) := (by omega)
                 have q197 : 2 < (t181.length : Int) := of_decide_eq_true (by first | (with_reducible assumption) | assumption)
                 obtain ⟨ad197, e197, hx197_0⟩ := Kd.at_string (Kd.R_reads' HO_9.out).2.2 2 p197 q197
                 obtain rfl : ad186 = ad197 := (by injection e197)
                 (try simp only [show (2 : Int).toNat = 2 from rfl, Nat.reduceMul, Nat.reduceEqDiff, Go.Addr.add, ↓reduceIte] at hx197_0)
                 have qi197 : (2 < t181.length) = True := eq_true (by omega)
                 (try rw [show ((2 : Int)).toNat = 2 from rfl] at hx197_0)
                 replace p197 := eq_true p197
                 replace q197 := eq_true q197
                 try go_wp2_with (first | ((with_reducible refine gate_callee (f := 18) rfl ?_); refine Sq.goM (some 102) Tryz.func18 #[.string (rdOf ByteArray.empty t181 2)] ?_; (with_reducible refine (spec_l00Number.calls kj145 (rdOf ByteArray.empty t181 2) t198 false _ A150.out).mono ?_); rintro e w' ⟨rfl, ⟨nd, rfl⟩⟩; refine ⟨_, rfl, ?_⟩; (try (rw [drewN_self wc]; generalize hq_ : World.drewN wc _ = wc; have n0_ : Aside0 (Kd.R (Kd.int .i64) 3 wc w.heap.size (fun _ => True) (.slice Ao5 y167.length co5) y167) := ⟨by rw [← hq_]; exact (by exact Sq.rk HO_171003.out)⟩; have n1_ : Aside0 (Kd.R Kd.string 9 wc w.heap.size (fun _ => True) (.slice (some ad186) t181.length co56) t181) := ⟨by rw [← hq_]; exact (by exact Sq.rk HO_9.out)⟩; have n2_ : Aside0 (wc.heap[gb166]? = some (.cells #[.int .i64 0, .int .i64 0, .int .i64 0, .slice none 0 0, .string (⟨#[]⟩ : ByteArray), .string (⟨#[]⟩ : ByteArray)] 24 (0, 0))) := ⟨by rw [← hq_]; exact (by exact Sq.bk BK166.out)⟩; have n3_ : Aside0 (wc.heap[gb170]? = some (.cells #[.int .i64 x171000_1, .int .i64 t187, .int .i64 0, .slice Ao5 y167.length co5, .string (⟨#[]⟩ : ByteArray), .string t182] 24 (0, 0))) := ⟨by rw [← hq_]; exact (by exact Sq.bk BK170.out)⟩; have n4_ : Aside0 (Below w.heap.size w wc) := ⟨by rw [← hq_]; exact (by repeat (first | (with_reducible first | exact HB.out | apply below_alloc | apply pw_below_drewN | apply below_drew1 | refine below_set ?_ GE166.out | refine below_set ?_ GE170.out) | exact HB.out))⟩; clear HO_171003 HO_9 BK166 BK170 HB hq_; have HO_171003 := n0_; have HO_9 := n1_; have BK166 := n2_; have BK170 := n3_; have HB := n4_; clear n0_ n1_ n2_ n3_ n4_)); have hnb177 := NB170_166.out; have hnc177 := NB166_170.out; obtain ⟨hcz178_0, hcz178_1, hcz178_2, hcz178_3, hcz178_4, hcz178_5⟩ := Sq.c6 BK170.out; have hfz178_0 := Sq.fz BK170.out; have p200 : 0 ≤ (3 : Int) := (by omega); have q200 : 3 < (t181.length : Int) := of_decide_eq_true (by first | (with_reducible assumption) | assumption); obtain ⟨ad200, e200, hx200_0⟩ := Kd.at_string (Kd.R_reads' HO_9.out).2.2 3 p200 q200; obtain rfl : ad186 = ad200 := (by injection e200); (try simp only [show (3 : Int).toNat = 3 from rfl, Nat.reduceMul, Nat.reduceEqDiff, Go.Addr.add, ↓reduceIte] at hx200_0); have qi200 : (3 < t181.length) = True := eq_true (by omega); (try rw [show ((3 : Int)).toNat = 3 from rfl] at hx200_0); have hn200_0 : ad186.block ≠ gb170 := Kd.own_blk (Kd.R_ne HO_9.out BK170.out (by decide)); replace hx200_0 := (cell_far (p := ⟨gb170, 2, none⟩) (by first | (rw [add_block]; exact hn200_0) | (show (Addr.add _ _).block ≠ _; rw [add_block]; exact hn200_0) | exact hn200_0) (.int .i64 t198)).trans hx200_0; clear hn200_0; replace p200 := eq_true p200; replace q200 := eq_true q200))
                 have n0_ : Aside0 (Kd.R Kd.string 9 ((wc.setCell ⟨gb170, 2, none⟩ (.int .i64 t198)).setCell ⟨gb170, 4, none⟩ (.string (rdOf ByteArray.empty t181 3))) w.heap.size (fun _ => True) (.slice (some ad186) t181.length co56) t181) := ⟨by refine Sq.rk ?_; exact Kd.R_mono (Kd.R_far (p := ⟨gb170, 4, none⟩) (Kd.R_far (p := ⟨gb170, 2, none⟩) (Kd.R_types HO_9.out BK170.out (by decide)) (fun _ hk => hk.2) (.int .i64 t198)) (fun _ hk => hk.2) (.string (rdOf ByteArray.empty t181 3))) (fun _ hk => trivial)⟩
                 have n1_ : Aside0 (Kd.R (Kd.int .i64) 3 ((wc.setCell ⟨gb170, 2, none⟩ (.int .i64 t198)).setCell ⟨gb170, 4, none⟩ (.string (rdOf ByteArray.empty t181 3))) w.heap.size (fun _ => True) (.slice Ao5 y167.length co5) y167) := ⟨by refine Sq.rk ?_; exact Kd.R_mono (Kd.R_far (p := ⟨gb170, 4, none⟩) (Kd.R_far (p := ⟨gb170, 2, none⟩) (Kd.R_types HO_171003.out BK170.out (by decide)) (fun _ hk => hk.2) (.int .i64 t198)) (fun _ hk => hk.2) (.string (rdOf ByteArray.empty t181 3))) (fun _ hk => trivial)⟩
                 have n2_ : Aside0 (((wc.setCell ⟨gb170, 2, none⟩ (.int .i64 t198)).setCell ⟨gb170, 4, none⟩ (.string (rdOf ByteArray.empty t181 3))).heap[gb166]? = some (.cells #[.int .i64 0, .int .i64 0, .int .i64 0, .slice none 0 0, .string (⟨#[]⟩ : ByteArray), .string (⟨#[]⟩ : ByteArray)] 24 (0, 0))) := ⟨by refine Sq.bk ?_; refine blk_far ?_ NB166_170.out _; refine Sq.bk ?_; refine blk_far ?_ NB166_170.out _; exact Sq.bk BK166.out⟩
                 have n3_ : Aside0 (((wc.setCell ⟨gb170, 2, none⟩ (.int .i64 t198)).setCell ⟨gb170, 4, none⟩ (.string (rdOf ByteArray.empty t181 3))).heap[gb170]? = some (.cells #[.int .i64 x171000_1, .int .i64 t187, .int .i64 t198, .slice Ao5 y167.length co5, .string (rdOf ByteArray.empty t181 3), .string t182] 24 (0, 0))) := ⟨by refine Sq.bk ?_; refine blk_put (cs := #[.int .i64 x171000_1, .int .i64 t187, .int .i64 t198, .slice Ao5 y167.length co5, .string (⟨#[]⟩ : ByteArray), .string t182]) ?_ 4 _ rfl; refine Sq.bk ?_; refine blk_put (cs := #[.int .i64 x171000_1, .int .i64 t187, .int .i64 0, .slice Ao5 y167.length co5, .string (⟨#[]⟩ : ByteArray), .string t182]) ?_ 2 _ rfl; exact Sq.bk BK170.out⟩
                 have n4_ : Aside0 (Below w.heap.size w ((wc.setCell ⟨gb170, 2, none⟩ (.int .i64 t198)).setCell ⟨gb170, 4, none⟩ (.string (rdOf ByteArray.empty t181 3)))) := ⟨by repeat (first | (with_reducible first | exact HB.out | apply below_alloc | apply pw_below_drewN | apply below_drew1 | refine below_set ?_ GE166.out | refine below_set ?_ GE170.out) | exact HB.out)⟩
                 (try clear HO_9)
                 (try clear HO_171003)
                 (try clear BK166)
                 (try clear BK170)
                 (try clear HB)
                 generalize ((wc.setCell ⟨gb170, 2, none⟩ (.int .i64 t198)).setCell ⟨gb170, 4, none⟩ (.string (rdOf ByteArray.empty t181 3))) = w179 at n0_ n1_ n2_ n3_ n4_ ⊢
                 have HO_9 := n0_
                 have HO_171003 := n1_
                 have BK166 := n2_
                 have BK170 := n3_
                 have HB := n4_
                 clear n0_ n1_ n2_ n3_ n4_
                 refine reg30a NB170_166.out BK166.out BK170.out (Kd.R_mono HO_171003.out (fun _ _ => trivial)) HB.out GE166.out (fun _ _ _ _ _ h => h) ?_
                 intro z118_ z119_ z120_ z121_ z122_ z123_ z124_ z125_ z126_ wz_ bz_ oz_ hz_
                 have BZ_ := Aside0.mk bz_
                 have OZ_ := Aside0.mk oz_
                 have HZ_ := Aside0.mk hz_
                 clear bz_ oz_ hz_
                 try go_wp2
                 refine bodyPost_ret (results_ct rfl _ _ gb166 24 #[.int .i64 x171000_1, .int .i64 t187, .int .i64 t198, .slice Ao5 y167.length co5, .string (rdOf ByteArray.empty t181 3), .string t182] (0, 0) _ rfl BZ_.out Tryz.underlying24 rfl (by kernel_rfl)) rfl ?_
                 exact ⟨_, by first | rfl | (simp [errW_none, errW_some] <;> rfl) | (simp [*, errW_none, errW_some] <;> rfl), OZ_.out, HZ_.out⟩
               ·rw [if_neg c152] at H
                exact absurd H (by simp)
              ·rw [if_neg c151] at H
               have c151b0 : (t179 == 4) = false := beq_eq_false_iff_ne.mpr c151
               have c151b1 : (t179 != 4) = true := bne_iff_ne.mpr c151
               by_cases c187 : t199 = true
               ·subst c187
                first | rw [if_pos rfl] at H | rw [if_pos trivial] at H
                try dsimp -failIfUnchanged -simprocs only at H
                by_cases c188 : t188 = true
                ·subst c188
                 first | rw [if_pos rfl] at H | rw [if_pos trivial] at H
                 try dsimp -failIfUnchanged -simprocs only at H
                 replace H := Option.bind_eq_some_iff.mp H
                 obtain ⟨t202, A1890, H⟩ := H
                 try dsimp -failIfUnchanged -simprocs only at H
                 have A189 := Aside0.mk A1890
                 clear A1890
                 simp only [Option.some.injEq, Prod.mk.injEq] at H
                 obtain ⟨rfl, rfl, rfl, rfl, rfl, rfl, rfl⟩ := H
                 have p197 : 0 ≤ (2 : Int) := (by omega)
                 have q197 : 2 < (t181.length : Int) := of_decide_eq_true (by first | (with_reducible assumption) | assumption)
                 obtain ⟨ad197, e197, hx197_0⟩ := Kd.at_string (Kd.R_reads' HO_9.out).2.2 2 p197 q197
                 obtain rfl : ad186 = ad197 := (by injection e197)
                 (try simp only [show (2 : Int).toNat = 2 from rfl, Nat.reduceMul, Nat.reduceEqDiff, Go.Addr.add, ↓reduceIte] at hx197_0)
                 have qi197 : (2 < t181.length) = True := eq_true (by omega)
                 (try rw [show ((2 : Int)).toNat = 2 from rfl] at hx197_0)
                 replace p197 := eq_true p197
                 replace q197 := eq_true q197
                 try go_wp2_with (first | ((with_reducible refine gate_callee (f := 18) rfl ?_); refine Sq.goM (some 102) Tryz.func18 #[.string (rdOf ByteArray.empty t181 2)] ?_; (with_reducible refine (spec_l00Number.calls kj145 (rdOf ByteArray.empty t181 2) t198 true _ A150.out).mono ?_); rintro e w' ⟨rfl, ⟨nd, rfl⟩⟩; refine ⟨_, rfl, ?_⟩; (try (rw [drewN_self wc]; generalize hq_ : World.drewN wc _ = wc; have n0_ : Aside0 (Kd.R (Kd.int .i64) 3 wc w.heap.size (fun _ => True) (.slice Ao5 y167.length co5) y167) := ⟨by rw [← hq_]; exact (by exact Sq.rk HO_171003.out)⟩; have n1_ : Aside0 (Kd.R Kd.string 9 wc w.heap.size (fun _ => True) (.slice (some ad186) t181.length co56) t181) := ⟨by rw [← hq_]; exact (by exact Sq.rk HO_9.out)⟩; have n2_ : Aside0 (wc.heap[gb166]? = some (.cells #[.int .i64 0, .int .i64 0, .int .i64 0, .slice none 0 0, .string (⟨#[]⟩ : ByteArray), .string (⟨#[]⟩ : ByteArray)] 24 (0, 0))) := ⟨by rw [← hq_]; exact (by exact Sq.bk BK166.out)⟩; have n3_ : Aside0 (wc.heap[gb170]? = some (.cells #[.int .i64 x171000_1, .int .i64 t187, .int .i64 0, .slice Ao5 y167.length co5, .string (⟨#[]⟩ : ByteArray), .string t182] 24 (0, 0))) := ⟨by rw [← hq_]; exact (by exact Sq.bk BK170.out)⟩; have n4_ : Aside0 (Below w.heap.size w wc) := ⟨by rw [← hq_]; exact (by repeat (first | (with_reducible first | exact HB.out | apply below_alloc | apply pw_below_drewN | apply below_drew1 | refine below_set ?_ GE166.out | refine below_set ?_ GE170.out) | exact HB.out))⟩; clear HO_171003 HO_9 BK166 BK170 HB hq_; have HO_171003 := n0_; have HO_9 := n1_; have BK166 := n2_; have BK170 := n3_; have HB := n4_; clear n0_ n1_ n2_ n3_ n4_)); have hnb190 := NB170_166.out; have hnc190 := NB166_170.out; obtain ⟨hcz191_0, hcz191_1, hcz191_2, hcz191_3, hcz191_4, hcz191_5⟩ := Sq.c6 BK170.out; have hfz191_0 := Sq.fz BK170.out))
                 have n0_ : Aside0 (Kd.R Kd.string 9 (wc.setCell ⟨gb170, 2, none⟩ (.int .i64 t198)) w.heap.size (fun _ => True) (.slice (some ad186) t181.length co56) t181) := ⟨by refine Sq.rk ?_; exact Kd.R_mono (Kd.R_far (p := ⟨gb170, 2, none⟩) (Kd.R_types HO_9.out BK170.out (by decide)) (fun _ hk => hk.2) (.int .i64 t198)) (fun _ hk => trivial)⟩
                 have n1_ : Aside0 (Kd.R (Kd.int .i64) 3 (wc.setCell ⟨gb170, 2, none⟩ (.int .i64 t198)) w.heap.size (fun _ => True) (.slice Ao5 y167.length co5) y167) := ⟨by refine Sq.rk ?_; exact Kd.R_mono (Kd.R_far (p := ⟨gb170, 2, none⟩) (Kd.R_types HO_171003.out BK170.out (by decide)) (fun _ hk => hk.2) (.int .i64 t198)) (fun _ hk => trivial)⟩
                 have n2_ : Aside0 ((wc.setCell ⟨gb170, 2, none⟩ (.int .i64 t198)).heap[gb166]? = some (.cells #[.int .i64 0, .int .i64 0, .int .i64 0, .slice none 0 0, .string (⟨#[]⟩ : ByteArray), .string (⟨#[]⟩ : ByteArray)] 24 (0, 0))) := ⟨by refine Sq.bk ?_; refine blk_far ?_ NB166_170.out _; exact Sq.bk BK166.out⟩
                 have n3_ : Aside0 ((wc.setCell ⟨gb170, 2, none⟩ (.int .i64 t198)).heap[gb170]? = some (.cells #[.int .i64 x171000_1, .int .i64 t187, .int .i64 t198, .slice Ao5 y167.length co5, .string (⟨#[]⟩ : ByteArray), .string t182] 24 (0, 0))) := ⟨by refine Sq.bk ?_; refine blk_put (cs := #[.int .i64 x171000_1, .int .i64 t187, .int .i64 0, .slice Ao5 y167.length co5, .string (⟨#[]⟩ : ByteArray), .string t182]) ?_ 2 _ rfl; exact Sq.bk BK170.out⟩
                 have n4_ : Aside0 (Below w.heap.size w (wc.setCell ⟨gb170, 2, none⟩ (.int .i64 t198))) := ⟨by repeat (first | (with_reducible first | exact HB.out | apply below_alloc | apply pw_below_drewN | apply below_drew1 | refine below_set ?_ GE166.out | refine below_set ?_ GE170.out) | exact HB.out)⟩
                 (try clear HO_9)
                 (try clear HO_171003)
                 (try clear BK166)
                 (try clear BK170)
                 (try clear HB)
                 generalize (wc.setCell ⟨gb170, 2, none⟩ (.int .i64 t198)) = w192 at n0_ n1_ n2_ n3_ n4_ ⊢
                 have HO_9 := n0_
                 have HO_171003 := n1_
                 have BK166 := n2_
                 have BK170 := n3_
                 have HB := n4_
                 clear n0_ n1_ n2_ n3_ n4_
                 refine reg30c A189.out NB170_166.out BK166.out BK170.out (Kd.R_mono HO_171003.out (fun _ _ => trivial)) HB.out GE166.out (fun _ _ _ _ _ h => h) ?_
                 intro z118_ z119_ z120_ z121_ z122_ z123_ z124_ z125_ z126_ wz_ bz_ oz_ hz_
                 have BZ_ := Aside0.mk bz_
                 have OZ_ := Aside0.mk oz_
                 have HZ_ := Aside0.mk hz_
                 clear bz_ oz_ hz_
                 try go_wp2
                 refine bodyPost_ret (results_ct rfl _ _ gb166 24 #[.int .i64 x171000_1, .int .i64 t187, .int .i64 t198, .slice Ao5 y167.length co5, .string (⟨#[]⟩ : ByteArray), .string t182] (0, 0) _ rfl BZ_.out Tryz.underlying24 rfl (by kernel_rfl)) rfl ?_
                 exact ⟨_, by first | rfl | (simp [errW_none, errW_some] <;> rfl) | (simp [*, errW_none, errW_some] <;> rfl), OZ_.out, HZ_.out⟩
                ·replace c188 := Bool.eq_false_iff.mpr c188
                 subst c188
                 rw [if_neg (show ¬ (false = true) by decide)] at H
                 try dsimp -failIfUnchanged -simprocs only at H
                 simp only [Option.some.injEq, Prod.mk.injEq] at H
                 obtain ⟨rfl, rfl, rfl, rfl, rfl, rfl, rfl⟩ := H
                 have p197 : 0 ≤ (2 : Int) := (by omega)
                 have q197 : 2 < (t181.length : Int) := of_decide_eq_true (by first | (with_reducible assumption) | assumption)
                 obtain ⟨ad197, e197, hx197_0⟩ := Kd.at_string (Kd.R_reads' HO_9.out).2.2 2 p197 q197
                 obtain rfl : ad186 = ad197 := (by injection e197)
                 (try simp only [show (2 : Int).toNat = 2 from rfl, Nat.reduceMul, Nat.reduceEqDiff, Go.Addr.add, ↓reduceIte] at hx197_0)
                 have qi197 : (2 < t181.length) = True := eq_true (by omega)
                 (try rw [show ((2 : Int)).toNat = 2 from rfl] at hx197_0)
                 replace p197 := eq_true p197
                 replace q197 := eq_true q197
                 try go_wp2_with (first | ((with_reducible refine gate_callee (f := 18) rfl ?_); refine Sq.goM (some 102) Tryz.func18 #[.string (rdOf ByteArray.empty t181 2)] ?_; (with_reducible refine (spec_l00Number.calls kj145 (rdOf ByteArray.empty t181 2) t198 true _ A150.out).mono ?_); rintro e w' ⟨rfl, ⟨nd, rfl⟩⟩; refine ⟨_, rfl, ?_⟩; (try (rw [drewN_self wc]; generalize hq_ : World.drewN wc _ = wc; have n0_ : Aside0 (Kd.R (Kd.int .i64) 3 wc w.heap.size (fun _ => True) (.slice Ao5 y167.length co5) y167) := ⟨by rw [← hq_]; exact (by exact Sq.rk HO_171003.out)⟩; have n1_ : Aside0 (Kd.R Kd.string 9 wc w.heap.size (fun _ => True) (.slice (some ad186) t181.length co56) t181) := ⟨by rw [← hq_]; exact (by exact Sq.rk HO_9.out)⟩; have n2_ : Aside0 (wc.heap[gb166]? = some (.cells #[.int .i64 0, .int .i64 0, .int .i64 0, .slice none 0 0, .string (⟨#[]⟩ : ByteArray), .string (⟨#[]⟩ : ByteArray)] 24 (0, 0))) := ⟨by rw [← hq_]; exact (by exact Sq.bk BK166.out)⟩; have n3_ : Aside0 (wc.heap[gb170]? = some (.cells #[.int .i64 x171000_1, .int .i64 t187, .int .i64 0, .slice Ao5 y167.length co5, .string (⟨#[]⟩ : ByteArray), .string t182] 24 (0, 0))) := ⟨by rw [← hq_]; exact (by exact Sq.bk BK170.out)⟩; have n4_ : Aside0 (Below w.heap.size w wc) := ⟨by rw [← hq_]; exact (by repeat (first | (with_reducible first | exact HB.out | apply below_alloc | apply pw_below_drewN | apply below_drew1 | refine below_set ?_ GE166.out | refine below_set ?_ GE170.out) | exact HB.out))⟩; clear HO_171003 HO_9 BK166 BK170 HB hq_; have HO_171003 := n0_; have HO_9 := n1_; have BK166 := n2_; have BK170 := n3_; have HB := n4_; clear n0_ n1_ n2_ n3_ n4_)); have hnb201 := NB170_166.out; have hnc201 := NB166_170.out; obtain ⟨hcz202_0, hcz202_1, hcz202_2, hcz202_3, hcz202_4, hcz202_5⟩ := Sq.c6 BK170.out; have hfz202_0 := Sq.fz BK170.out))
                 have n0_ : Aside0 (Kd.R Kd.string 9 (wc.setCell ⟨gb170, 2, none⟩ (.int .i64 t198)) w.heap.size (fun _ => True) (.slice (some ad186) t181.length co56) t181) := ⟨by refine Sq.rk ?_; exact Kd.R_mono (Kd.R_far (p := ⟨gb170, 2, none⟩) (Kd.R_types HO_9.out BK170.out (by decide)) (fun _ hk => hk.2) (.int .i64 t198)) (fun _ hk => trivial)⟩
                 have n1_ : Aside0 (Kd.R (Kd.int .i64) 3 (wc.setCell ⟨gb170, 2, none⟩ (.int .i64 t198)) w.heap.size (fun _ => True) (.slice Ao5 y167.length co5) y167) := ⟨by refine Sq.rk ?_; exact Kd.R_mono (Kd.R_far (p := ⟨gb170, 2, none⟩) (Kd.R_types HO_171003.out BK170.out (by decide)) (fun _ hk => hk.2) (.int .i64 t198)) (fun _ hk => trivial)⟩
                 have n2_ : Aside0 ((wc.setCell ⟨gb170, 2, none⟩ (.int .i64 t198)).heap[gb166]? = some (.cells #[.int .i64 0, .int .i64 0, .int .i64 0, .slice none 0 0, .string (⟨#[]⟩ : ByteArray), .string (⟨#[]⟩ : ByteArray)] 24 (0, 0))) := ⟨by refine Sq.bk ?_; refine blk_far ?_ NB166_170.out _; exact Sq.bk BK166.out⟩
                 have n3_ : Aside0 ((wc.setCell ⟨gb170, 2, none⟩ (.int .i64 t198)).heap[gb170]? = some (.cells #[.int .i64 x171000_1, .int .i64 t187, .int .i64 t198, .slice Ao5 y167.length co5, .string (⟨#[]⟩ : ByteArray), .string t182] 24 (0, 0))) := ⟨by refine Sq.bk ?_; refine blk_put (cs := #[.int .i64 x171000_1, .int .i64 t187, .int .i64 0, .slice Ao5 y167.length co5, .string (⟨#[]⟩ : ByteArray), .string t182]) ?_ 2 _ rfl; exact Sq.bk BK170.out⟩
                 have n4_ : Aside0 (Below w.heap.size w (wc.setCell ⟨gb170, 2, none⟩ (.int .i64 t198))) := ⟨by repeat (first | (with_reducible first | exact HB.out | apply below_alloc | apply pw_below_drewN | apply below_drew1 | refine below_set ?_ GE166.out | refine below_set ?_ GE170.out) | exact HB.out)⟩
                 (try clear HO_9)
                 (try clear HO_171003)
                 (try clear BK166)
                 (try clear BK170)
                 (try clear HB)
                 generalize (wc.setCell ⟨gb170, 2, none⟩ (.int .i64 t198)) = w203 at n0_ n1_ n2_ n3_ n4_ ⊢
                 have HO_9 := n0_
                 have HO_171003 := n1_
                 have BK166 := n2_
                 have BK170 := n3_
                 have HB := n4_
                 clear n0_ n1_ n2_ n3_ n4_
                 refine reg30b NB170_166.out BK166.out BK170.out (Kd.R_mono HO_171003.out (fun _ _ => trivial)) HB.out GE166.out (fun _ _ _ _ _ h => h) ?_
                 intro z118_ z119_ z120_ z121_ z122_ z123_ z124_ z125_ z126_ wz_ bz_ oz_ hz_
                 have BZ_ := Aside0.mk bz_
                 have OZ_ := Aside0.mk oz_
                 have HZ_ := Aside0.mk hz_
                 clear bz_ oz_ hz_
                 try go_wp2
                 refine bodyPost_ret (results_ct rfl _ _ gb166 24 #[.int .i64 x171000_1, .int .i64 t187, .int .i64 t198, .slice Ao5 y167.length co5, .string (⟨#[]⟩ : ByteArray), .string t182] (0, 0) _ rfl BZ_.out Tryz.underlying24 rfl (by kernel_rfl)) rfl ?_
                 exact ⟨_, by first | rfl | (simp [errW_none, errW_some] <;> rfl) | (simp [*, errW_none, errW_some] <;> rfl), OZ_.out, HZ_.out⟩
               ·replace c187 := Bool.eq_false_iff.mpr c187
                subst c187
                rw [if_neg (show ¬ (false = true) by decide)] at H
                try dsimp -failIfUnchanged -simprocs only at H
                simp only [Option.some.injEq, Prod.mk.injEq] at H
                obtain ⟨rfl, rfl, rfl, rfl, rfl, rfl, rfl⟩ := H
                have p197 : 0 ≤ (2 : Int) := (by omega)
                have q197 : 2 < (t181.length : Int) := of_decide_eq_true (by first | (with_reducible assumption) | assumption)
                obtain ⟨ad197, e197, hx197_0⟩ := Kd.at_string (Kd.R_reads' HO_9.out).2.2 2 p197 q197
                obtain rfl : ad186 = ad197 := (by injection e197)
                (try simp only [show (2 : Int).toNat = 2 from rfl, Nat.reduceMul, Nat.reduceEqDiff, Go.Addr.add, ↓reduceIte] at hx197_0)
                have qi197 : (2 < t181.length) = True := eq_true (by omega)
                (try rw [show ((2 : Int)).toNat = 2 from rfl] at hx197_0)
                replace p197 := eq_true p197
                replace q197 := eq_true q197
                try go_wp2_with (first | ((with_reducible refine gate_callee (f := 18) rfl ?_); refine Sq.goM (some 102) Tryz.func18 #[.string (rdOf ByteArray.empty t181 2)] ?_; (with_reducible refine (spec_l00Number.calls kj145 (rdOf ByteArray.empty t181 2) t198 false _ A150.out).mono ?_); rintro e w' ⟨rfl, ⟨nd, rfl⟩⟩; refine ⟨_, rfl, ?_⟩; (try (rw [drewN_self wc]; generalize hq_ : World.drewN wc _ = wc; have n0_ : Aside0 (Kd.R (Kd.int .i64) 3 wc w.heap.size (fun _ => True) (.slice Ao5 y167.length co5) y167) := ⟨by rw [← hq_]; exact (by exact Sq.rk HO_171003.out)⟩; have n1_ : Aside0 (Kd.R Kd.string 9 wc w.heap.size (fun _ => True) (.slice (some ad186) t181.length co56) t181) := ⟨by rw [← hq_]; exact (by exact Sq.rk HO_9.out)⟩; have n2_ : Aside0 (wc.heap[gb166]? = some (.cells #[.int .i64 0, .int .i64 0, .int .i64 0, .slice none 0 0, .string (⟨#[]⟩ : ByteArray), .string (⟨#[]⟩ : ByteArray)] 24 (0, 0))) := ⟨by rw [← hq_]; exact (by exact Sq.bk BK166.out)⟩; have n3_ : Aside0 (wc.heap[gb170]? = some (.cells #[.int .i64 x171000_1, .int .i64 t187, .int .i64 0, .slice Ao5 y167.length co5, .string (⟨#[]⟩ : ByteArray), .string t182] 24 (0, 0))) := ⟨by rw [← hq_]; exact (by exact Sq.bk BK170.out)⟩; have n4_ : Aside0 (Below w.heap.size w wc) := ⟨by rw [← hq_]; exact (by repeat (first | (with_reducible first | exact HB.out | apply below_alloc | apply pw_below_drewN | apply below_drew1 | refine below_set ?_ GE166.out | refine below_set ?_ GE170.out) | exact HB.out))⟩; clear HO_171003 HO_9 BK166 BK170 HB hq_; have HO_171003 := n0_; have HO_9 := n1_; have BK166 := n2_; have BK170 := n3_; have HB := n4_; clear n0_ n1_ n2_ n3_ n4_)); have hnb211 := NB170_166.out; have hnc211 := NB166_170.out; obtain ⟨hcz212_0, hcz212_1, hcz212_2, hcz212_3, hcz212_4, hcz212_5⟩ := Sq.c6 BK170.out; have hfz212_0 := Sq.fz BK170.out))
                have n0_ : Aside0 (Kd.R Kd.string 9 (wc.setCell ⟨gb170, 2, none⟩ (.int .i64 t198)) w.heap.size (fun _ => True) (.slice (some ad186) t181.length co56) t181) := ⟨by refine Sq.rk ?_; exact Kd.R_mono (Kd.R_far (p := ⟨gb170, 2, none⟩) (Kd.R_types HO_9.out BK170.out (by decide)) (fun _ hk => hk.2) (.int .i64 t198)) (fun _ hk => trivial)⟩
                have n1_ : Aside0 (Kd.R (Kd.int .i64) 3 (wc.setCell ⟨gb170, 2, none⟩ (.int .i64 t198)) w.heap.size (fun _ => True) (.slice Ao5 y167.length co5) y167) := ⟨by refine Sq.rk ?_; exact Kd.R_mono (Kd.R_far (p := ⟨gb170, 2, none⟩) (Kd.R_types HO_171003.out BK170.out (by decide)) (fun _ hk => hk.2) (.int .i64 t198)) (fun _ hk => trivial)⟩
                have n2_ : Aside0 ((wc.setCell ⟨gb170, 2, none⟩ (.int .i64 t198)).heap[gb166]? = some (.cells #[.int .i64 0, .int .i64 0, .int .i64 0, .slice none 0 0, .string (⟨#[]⟩ : ByteArray), .string (⟨#[]⟩ : ByteArray)] 24 (0, 0))) := ⟨by refine Sq.bk ?_; refine blk_far ?_ NB166_170.out _; exact Sq.bk BK166.out⟩
                have n3_ : Aside0 ((wc.setCell ⟨gb170, 2, none⟩ (.int .i64 t198)).heap[gb170]? = some (.cells #[.int .i64 x171000_1, .int .i64 t187, .int .i64 t198, .slice Ao5 y167.length co5, .string (⟨#[]⟩ : ByteArray), .string t182] 24 (0, 0))) := ⟨by refine Sq.bk ?_; refine blk_put (cs := #[.int .i64 x171000_1, .int .i64 t187, .int .i64 0, .slice Ao5 y167.length co5, .string (⟨#[]⟩ : ByteArray), .string t182]) ?_ 2 _ rfl; exact Sq.bk BK170.out⟩
                have n4_ : Aside0 (Below w.heap.size w (wc.setCell ⟨gb170, 2, none⟩ (.int .i64 t198))) := ⟨by repeat (first | (with_reducible first | exact HB.out | apply below_alloc | apply pw_below_drewN | apply below_drew1 | refine below_set ?_ GE166.out | refine below_set ?_ GE170.out) | exact HB.out)⟩
                (try clear HO_9)
                (try clear HO_171003)
                (try clear BK166)
                (try clear BK170)
                (try clear HB)
                generalize (wc.setCell ⟨gb170, 2, none⟩ (.int .i64 t198)) = w213 at n0_ n1_ n2_ n3_ n4_ ⊢
                have HO_9 := n0_
                have HO_171003 := n1_
                have BK166 := n2_
                have BK170 := n3_
                have HB := n4_
                clear n0_ n1_ n2_ n3_ n4_
                refine reg30a NB170_166.out BK166.out BK170.out (Kd.R_mono HO_171003.out (fun _ _ => trivial)) HB.out GE166.out (fun _ _ _ _ _ h => h) ?_
                intro z118_ z119_ z120_ z121_ z122_ z123_ z124_ z125_ z126_ wz_ bz_ oz_ hz_
                have BZ_ := Aside0.mk bz_
                have OZ_ := Aside0.mk oz_
                have HZ_ := Aside0.mk hz_
                clear bz_ oz_ hz_
                try go_wp2
                refine bodyPost_ret (results_ct rfl _ _ gb166 24 #[.int .i64 x171000_1, .int .i64 t187, .int .i64 t198, .slice Ao5 y167.length co5, .string (⟨#[]⟩ : ByteArray), .string t182] (0, 0) _ rfl BZ_.out Tryz.underlying24 rfl (by kernel_rfl)) rfl ?_
                exact ⟨_, by first | rfl | (simp [errW_none, errW_some] <;> rfl) | (simp [*, errW_none, errW_some] <;> rfl), OZ_.out, HZ_.out⟩
             ·rw [if_neg c149] at H
              exact absurd H (by simp)
            ·replace c148 := Bool.eq_false_iff.mpr c148
             subst c148
             rw [if_neg (show ¬ (false = true) by decide)] at H
             try dsimp -failIfUnchanged -simprocs only at H
             by_cases c221 : x171000_1 = 1
             ·rw [if_pos c221] at H
              have c221b0 : (x171000_1 == 1) = true := beq_iff_eq.mpr c221
              have c221b1 : (x171000_1 != 1) = false := bne_eq_false_iff_eq.mpr c221
              clear c221
              by_cases c222 : 2 < (t181.length : Int)
              ·rw [if_pos c222] at H
               have c222b0 : decide (2 < (t181.length : Int)) = true := decide_eq_true c222
               have c222b1 : decide (2 < t181.length) = true := decide_eq_true (by omega)
               clear c222
               by_cases c223 : t179 = 4
               ·rw [if_pos c223] at H
                have c223b0 : (t179 == 4) = true := beq_iff_eq.mpr c223
                have c223b1 : (t179 != 4) = false := bne_eq_false_iff_eq.mpr c223
                clear c223
                by_cases c224 : 3 < (t181.length : Int)
                ·rw [if_pos c224] at H
                 have c224b0 : decide (3 < (t181.length : Int)) = true := decide_eq_true c224
                 have c224b1 : decide (3 < t181.length) = true := decide_eq_true (by omega)
                 clear c224
                 by_cases c225 : true = true
                 ·clear c225
                  first | rw [if_pos rfl] at H | rw [if_pos trivial] at H
                  try dsimp -failIfUnchanged -simprocs only at H
                  by_cases c226 : t188 = true
                  ·subst c226
                   first | rw [if_pos rfl] at H | rw [if_pos trivial] at H
                   try dsimp -failIfUnchanged -simprocs only at H
                   replace H := Option.bind_eq_some_iff.mp H
                   obtain ⟨t205, A2270, H⟩ := H
                   try dsimp -failIfUnchanged -simprocs only at H
                   have A227 := Aside0.mk A2270
                   clear A2270
                   simp only [Option.some.injEq, Prod.mk.injEq] at H
                   obtain ⟨rfl, rfl, rfl, rfl, rfl, rfl, rfl⟩ := H
                   have p203 : 0 ≤ (2 : Int) := (by omega)
                   have q203 : 2 < (t181.length : Int) := of_decide_eq_true (by first | (with_reducible assumption) | assumption)
                   obtain ⟨ad203, e203, hx203_0⟩ := Kd.at_string (Kd.R_reads' HO_9.out).2.2 2 p203 q203
                   obtain rfl : ad186 = ad203 := (by injection e203)
                   (try simp only [show (2 : Int).toNat = 2 from rfl, Nat.reduceMul, Nat.reduceEqDiff, Go.Addr.add, ↓reduceIte] at hx203_0)
                   have qi203 : (2 < t181.length) = True := eq_true (by omega)
                   (try rw [show ((2 : Int)).toNat = 2 from rfl] at hx203_0)
                   replace p203 := eq_true p203
                   replace q203 := eq_true q203
                   have hnb228 := NB170_166.out
                   have hnc228 := NB166_170.out
                   obtain ⟨hcz229_0, hcz229_1, hcz229_2, hcz229_3, hcz229_4, hcz229_5⟩ := Sq.c6 BK170.out
                   have hfz229_0 := Sq.fz BK170.out
                   have p204 : 0 ≤ (3 : Int) := (by omega)
                   have q204 : 3 < (t181.length : Int) := of_decide_eq_true (by first | (with_reducible assumption) | assumption)
                   obtain ⟨ad204, e204, hx204_0⟩ := Kd.at_string (Kd.R_reads' HO_9.out).2.2 3 p204 q204
                   obtain rfl : ad186 = ad204 := (by injection e204)
                   (try simp only [show (3 : Int).toNat = 3 from rfl, Nat.reduceMul, Nat.reduceEqDiff, Go.Addr.add, ↓reduceIte] at hx204_0)
                   have qi204 : (3 < t181.length) = True := eq_true (by omega)
                   (try rw [show ((3 : Int)).toNat = 3 from rfl] at hx204_0)
                   have hn204_0 : ad186.block ≠ gb170 := Kd.own_blk (Kd.R_ne HO_9.out BK170.out (by decide))
                   replace hx204_0 := (cell_far (p := ⟨gb170, 4, none⟩) (by first | (rw [add_block]; exact hn204_0) | (show (Addr.add _ _).block ≠ _; rw [add_block]; exact hn204_0) | exact hn204_0) (.string (rdOf ByteArray.empty t181 2))).trans hx204_0
                   clear hn204_0
                   replace p204 := eq_true p204
                   replace q204 := eq_true q204
                   try go_wp2
                   have n0_ : Aside0 (Kd.R Kd.string 9 ((wc.setCell ⟨gb170, 4, none⟩ (.string (rdOf ByteArray.empty t181 2))).setCell ⟨gb170, 4, none⟩ (.string (rdOf ByteArray.empty t181 3))) w.heap.size (fun _ => True) (.slice (some ad186) t181.length co56) t181) := ⟨by refine Sq.rk ?_; exact Kd.R_mono (Kd.R_far (p := ⟨gb170, 4, none⟩) (Kd.R_far (p := ⟨gb170, 4, none⟩) (Kd.R_types HO_9.out BK170.out (by decide)) (fun _ hk => hk.2) (.string (rdOf ByteArray.empty t181 2))) (fun _ hk => hk.2) (.string (rdOf ByteArray.empty t181 3))) (fun _ hk => trivial)⟩
                   have n1_ : Aside0 (Kd.R (Kd.int .i64) 3 ((wc.setCell ⟨gb170, 4, none⟩ (.string (rdOf ByteArray.empty t181 2))).setCell ⟨gb170, 4, none⟩ (.string (rdOf ByteArray.empty t181 3))) w.heap.size (fun _ => True) (.slice Ao5 y167.length co5) y167) := ⟨by refine Sq.rk ?_; exact Kd.R_mono (Kd.R_far (p := ⟨gb170, 4, none⟩) (Kd.R_far (p := ⟨gb170, 4, none⟩) (Kd.R_types HO_171003.out BK170.out (by decide)) (fun _ hk => hk.2) (.string (rdOf ByteArray.empty t181 2))) (fun _ hk => hk.2) (.string (rdOf ByteArray.empty t181 3))) (fun _ hk => trivial)⟩
                   have n2_ : Aside0 (((wc.setCell ⟨gb170, 4, none⟩ (.string (rdOf ByteArray.empty t181 2))).setCell ⟨gb170, 4, none⟩ (.string (rdOf ByteArray.empty t181 3))).heap[gb166]? = some (.cells #[.int .i64 0, .int .i64 0, .int .i64 0, .slice none 0 0, .string (⟨#[]⟩ : ByteArray), .string (⟨#[]⟩ : ByteArray)] 24 (0, 0))) := ⟨by refine Sq.bk ?_; refine blk_far ?_ NB166_170.out _; refine Sq.bk ?_; refine blk_far ?_ NB166_170.out _; exact Sq.bk BK166.out⟩
                   have n3_ : Aside0 (((wc.setCell ⟨gb170, 4, none⟩ (.string (rdOf ByteArray.empty t181 2))).setCell ⟨gb170, 4, none⟩ (.string (rdOf ByteArray.empty t181 3))).heap[gb170]? = some (.cells #[.int .i64 x171000_1, .int .i64 t187, .int .i64 0, .slice Ao5 y167.length co5, .string (rdOf ByteArray.empty t181 3), .string t182] 24 (0, 0))) := ⟨by refine Sq.bk ?_; refine blk_put (cs := #[.int .i64 x171000_1, .int .i64 t187, .int .i64 0, .slice Ao5 y167.length co5, .string (rdOf ByteArray.empty t181 2), .string t182]) ?_ 4 _ rfl; refine Sq.bk ?_; refine blk_put (cs := #[.int .i64 x171000_1, .int .i64 t187, .int .i64 0, .slice Ao5 y167.length co5, .string (⟨#[]⟩ : ByteArray), .string t182]) ?_ 4 _ rfl; exact Sq.bk BK170.out⟩
                   have n4_ : Aside0 (Below w.heap.size w ((wc.setCell ⟨gb170, 4, none⟩ (.string (rdOf ByteArray.empty t181 2))).setCell ⟨gb170, 4, none⟩ (.string (rdOf ByteArray.empty t181 3)))) := ⟨by repeat (first | (with_reducible first | exact HB.out | apply below_alloc | apply pw_below_drewN | apply below_drew1 | refine below_set ?_ GE166.out | refine below_set ?_ GE170.out) | exact HB.out)⟩
                   (try clear HO_9)
                   (try clear HO_171003)
                   (try clear BK166)
                   (try clear BK170)
                   (try clear HB)
                   generalize ((wc.setCell ⟨gb170, 4, none⟩ (.string (rdOf ByteArray.empty t181 2))).setCell ⟨gb170, 4, none⟩ (.string (rdOf ByteArray.empty t181 3))) = w230 at n0_ n1_ n2_ n3_ n4_ ⊢
                   have HO_9 := n0_
                   have HO_171003 := n1_
                   have BK166 := n2_
                   have BK170 := n3_
                   have HB := n4_
                   clear n0_ n1_ n2_ n3_ n4_
                   refine reg30c A227.out NB170_166.out BK166.out BK170.out (Kd.R_mono HO_171003.out (fun _ _ => trivial)) HB.out GE166.out (fun _ _ _ _ _ h => h) ?_
                   intro z118_ z119_ z120_ z121_ z122_ z123_ z124_ z125_ z126_ wz_ bz_ oz_ hz_
                   have BZ_ := Aside0.mk bz_
                   have OZ_ := Aside0.mk oz_
                   have HZ_ := Aside0.mk hz_
                   clear bz_ oz_ hz_
                   try go_wp2
                   refine bodyPost_ret (results_ct rfl _ _ gb166 24 #[.int .i64 x171000_1, .int .i64 t187, .int .i64 0, .slice Ao5 y167.length co5, .string (rdOf ByteArray.empty t181 3), .string t182] (0, 0) _ rfl BZ_.out Tryz.underlying24 rfl (by kernel_rfl)) rfl ?_
                   exact ⟨_, by first | rfl | (simp [errW_none, errW_some] <;> rfl) | (simp [*, errW_none, errW_some] <;> rfl), OZ_.out, HZ_.out⟩
                  ·replace c226 := Bool.eq_false_iff.mpr c226
                   subst c226
                   rw [if_neg (show ¬ (false = true) by decide)] at H
                   try dsimp -failIfUnchanged -simprocs only at H
                   simp only [Option.some.injEq, Prod.mk.injEq] at H
                   obtain ⟨rfl, rfl, rfl, rfl, rfl, rfl, rfl⟩ := H
                   have p203 : 0 ≤ (2 : Int) := (by omega)
                   have q203 : 2 < (t181.length : Int) := of_decide_eq_true (by first | (with_reducible assumption) | assumption)
                   obtain ⟨ad203, e203, hx203_0⟩ := Kd.at_string (Kd.R_reads' HO_9.out).2.2 2 p203 q203
                   obtain rfl : ad186 = ad203 := (by injection e203)
                   (try simp only [show (2 : Int).toNat = 2 from rfl, Nat.reduceMul, Nat.reduceEqDiff, Go.Addr.add, ↓reduceIte] at hx203_0)
                   have qi203 : (2 < t181.length) = True := eq_true (by omega)
                   (try rw [show ((2 : Int)).toNat = 2 from rfl] at hx203_0)
                   replace p203 := eq_true p203
                   replace q203 := eq_true q203
                   have hnb239 := NB170_166.out
                   have hnc239 := NB166_170.out
                   obtain ⟨hcz240_0, hcz240_1, hcz240_2, hcz240_3, hcz240_4, hcz240_5⟩ := Sq.c6 BK170.out
                   have hfz240_0 := Sq.fz BK170.out
                   have p204 : 0 ≤ (3 : Int) := (by omega)
                   have q204 : 3 < (t181.length : Int) := of_decide_eq_true (by first | (with_reducible assumption) | assumption)
                   obtain ⟨ad204, e204, hx204_0⟩ := Kd.at_string (Kd.R_reads' HO_9.out).2.2 3 p204 q204
                   obtain rfl : ad186 = ad204 := (by injection e204)
                   (try simp only [show (3 : Int).toNat = 3 from rfl, Nat.reduceMul, Nat.reduceEqDiff, Go.Addr.add, ↓reduceIte] at hx204_0)
                   have qi204 : (3 < t181.length) = True := eq_true (by omega)
                   (try rw [show ((3 : Int)).toNat = 3 from rfl] at hx204_0)
                   have hn204_0 : ad186.block ≠ gb170 := Kd.own_blk (Kd.R_ne HO_9.out BK170.out (by decide))
                   replace hx204_0 := (cell_far (p := ⟨gb170, 4, none⟩) (by first | (rw [add_block]; exact hn204_0) | (show (Addr.add _ _).block ≠ _; rw [add_block]; exact hn204_0) | exact hn204_0) (.string (rdOf ByteArray.empty t181 2))).trans hx204_0
                   clear hn204_0
                   replace p204 := eq_true p204
                   replace q204 := eq_true q204
                   try go_wp2
                   have n0_ : Aside0 (Kd.R Kd.string 9 ((wc.setCell ⟨gb170, 4, none⟩ (.string (rdOf ByteArray.empty t181 2))).setCell ⟨gb170, 4, none⟩ (.string (rdOf ByteArray.empty t181 3))) w.heap.size (fun _ => True) (.slice (some ad186) t181.length co56) t181) := ⟨by refine Sq.rk ?_; exact Kd.R_mono (Kd.R_far (p := ⟨gb170, 4, none⟩) (Kd.R_far (p := ⟨gb170, 4, none⟩) (Kd.R_types HO_9.out BK170.out (by decide)) (fun _ hk => hk.2) (.string (rdOf ByteArray.empty t181 2))) (fun _ hk => hk.2) (.string (rdOf ByteArray.empty t181 3))) (fun _ hk => trivial)⟩
                   have n1_ : Aside0 (Kd.R (Kd.int .i64) 3 ((wc.setCell ⟨gb170, 4, none⟩ (.string (rdOf ByteArray.empty t181 2))).setCell ⟨gb170, 4, none⟩ (.string (rdOf ByteArray.empty t181 3))) w.heap.size (fun _ => True) (.slice Ao5 y167.length co5) y167) := ⟨by refine Sq.rk ?_; exact Kd.R_mono (Kd.R_far (p := ⟨gb170, 4, none⟩) (Kd.R_far (p := ⟨gb170, 4, none⟩) (Kd.R_types HO_171003.out BK170.out (by decide)) (fun _ hk => hk.2) (.string (rdOf ByteArray.empty t181 2))) (fun _ hk => hk.2) (.string (rdOf ByteArray.empty t181 3))) (fun _ hk => trivial)⟩
                   have n2_ : Aside0 (((wc.setCell ⟨gb170, 4, none⟩ (.string (rdOf ByteArray.empty t181 2))).setCell ⟨gb170, 4, none⟩ (.string (rdOf ByteArray.empty t181 3))).heap[gb166]? = some (.cells #[.int .i64 0, .int .i64 0, .int .i64 0, .slice none 0 0, .string (⟨#[]⟩ : ByteArray), .string (⟨#[]⟩ : ByteArray)] 24 (0, 0))) := ⟨by refine Sq.bk ?_; refine blk_far ?_ NB166_170.out _; refine Sq.bk ?_; refine blk_far ?_ NB166_170.out _; exact Sq.bk BK166.out⟩
                   have n3_ : Aside0 (((wc.setCell ⟨gb170, 4, none⟩ (.string (rdOf ByteArray.empty t181 2))).setCell ⟨gb170, 4, none⟩ (.string (rdOf ByteArray.empty t181 3))).heap[gb170]? = some (.cells #[.int .i64 x171000_1, .int .i64 t187, .int .i64 0, .slice Ao5 y167.length co5, .string (rdOf ByteArray.empty t181 3), .string t182] 24 (0, 0))) := ⟨by refine Sq.bk ?_; refine blk_put (cs := #[.int .i64 x171000_1, .int .i64 t187, .int .i64 0, .slice Ao5 y167.length co5, .string (rdOf ByteArray.empty t181 2), .string t182]) ?_ 4 _ rfl; refine Sq.bk ?_; refine blk_put (cs := #[.int .i64 x171000_1, .int .i64 t187, .int .i64 0, .slice Ao5 y167.length co5, .string (⟨#[]⟩ : ByteArray), .string t182]) ?_ 4 _ rfl; exact Sq.bk BK170.out⟩
                   have n4_ : Aside0 (Below w.heap.size w ((wc.setCell ⟨gb170, 4, none⟩ (.string (rdOf ByteArray.empty t181 2))).setCell ⟨gb170, 4, none⟩ (.string (rdOf ByteArray.empty t181 3)))) := ⟨by repeat (first | (with_reducible first | exact HB.out | apply below_alloc | apply pw_below_drewN | apply below_drew1 | refine below_set ?_ GE166.out | refine below_set ?_ GE170.out) | exact HB.out)⟩
                   (try clear HO_9)
                   (try clear HO_171003)
                   (try clear BK166)
                   (try clear BK170)
                   (try clear HB)
                   generalize ((wc.setCell ⟨gb170, 4, none⟩ (.string (rdOf ByteArray.empty t181 2))).setCell ⟨gb170, 4, none⟩ (.string (rdOf ByteArray.empty t181 3))) = w241 at n0_ n1_ n2_ n3_ n4_ ⊢
                   have HO_9 := n0_
                   have HO_171003 := n1_
                   have BK166 := n2_
                   have BK170 := n3_
                   have HB := n4_
                   clear n0_ n1_ n2_ n3_ n4_
                   refine reg30b NB170_166.out BK166.out BK170.out (Kd.R_mono HO_171003.out (fun _ _ => trivial)) HB.out GE166.out (fun _ _ _ _ _ h => h) ?_
                   intro z118_ z119_ z120_ z121_ z122_ z123_ z124_ z125_ z126_ wz_ bz_ oz_ hz_
                   have BZ_ := Aside0.mk bz_
                   have OZ_ := Aside0.mk oz_
                   have HZ_ := Aside0.mk hz_
                   clear bz_ oz_ hz_
                   try go_wp2
                   refine bodyPost_ret (results_ct rfl _ _ gb166 24 #[.int .i64 x171000_1, .int .i64 t187, .int .i64 0, .slice Ao5 y167.length co5, .string (rdOf ByteArray.empty t181 3), .string t182] (0, 0) _ rfl BZ_.out Tryz.underlying24 rfl (by kernel_rfl)) rfl ?_
                   exact ⟨_, by first | rfl | (simp [errW_none, errW_some] <;> rfl) | (simp [*, errW_none, errW_some] <;> rfl), OZ_.out, HZ_.out⟩
                 ·exact absurd rfl c225
                ·rw [if_neg c224] at H
                 exact absurd H (by simp)
               ·rw [if_neg c223] at H
                have c223b0 : (t179 == 4) = false := beq_eq_false_iff_ne.mpr c223
                have c223b1 : (t179 != 4) = true := bne_iff_ne.mpr c223
                by_cases c259 : true = true
                ·clear c259
                 first | rw [if_pos rfl] at H | rw [if_pos trivial] at H
                 try dsimp -failIfUnchanged -simprocs only at H
                 by_cases c260 : t188 = true
                 ·subst c260
                  first | rw [if_pos rfl] at H | rw [if_pos trivial] at H
                  try dsimp -failIfUnchanged -simprocs only at H
                  replace H := Option.bind_eq_some_iff.mp H
                  obtain ⟨t206, A2610, H⟩ := H
                  try dsimp -failIfUnchanged -simprocs only at H
                  have A261 := Aside0.mk A2610
                  clear A2610
                  simp only [Option.some.injEq, Prod.mk.injEq] at H
                  obtain ⟨rfl, rfl, rfl, rfl, rfl, rfl, rfl⟩ := H
                  have p203 : 0 ≤ (2 : Int) := (by omega)
                  have q203 : 2 < (t181.length : Int) := of_decide_eq_true (by first | (with_reducible assumption) | assumption)
                  obtain ⟨ad203, e203, hx203_0⟩ := Kd.at_string (Kd.R_reads' HO_9.out).2.2 2 p203 q203
                  obtain rfl : ad186 = ad203 := (by injection e203)
                  (try simp only [show (2 : Int).toNat = 2 from rfl, Nat.reduceMul, Nat.reduceEqDiff, Go.Addr.add, ↓reduceIte] at hx203_0)
                  have qi203 : (2 < t181.length) = True := eq_true (by omega)
                  (try rw [show ((2 : Int)).toNat = 2 from rfl] at hx203_0)
                  replace p203 := eq_true p203
                  replace q203 := eq_true q203
                  have hnb262 := NB170_166.out
                  have hnc262 := NB166_170.out
                  obtain ⟨hcz263_0, hcz263_1, hcz263_2, hcz263_3, hcz263_4, hcz263_5⟩ := Sq.c6 BK170.out
                  have hfz263_0 := Sq.fz BK170.out
                  try go_wp2
                  have n0_ : Aside0 (Kd.R Kd.string 9 (wc.setCell ⟨gb170, 4, none⟩ (.string (rdOf ByteArray.empty t181 2))) w.heap.size (fun _ => True) (.slice (some ad186) t181.length co56) t181) := ⟨by refine Sq.rk ?_; exact Kd.R_mono (Kd.R_far (p := ⟨gb170, 4, none⟩) (Kd.R_types HO_9.out BK170.out (by decide)) (fun _ hk => hk.2) (.string (rdOf ByteArray.empty t181 2))) (fun _ hk => trivial)⟩
                  have n1_ : Aside0 (Kd.R (Kd.int .i64) 3 (wc.setCell ⟨gb170, 4, none⟩ (.string (rdOf ByteArray.empty t181 2))) w.heap.size (fun _ => True) (.slice Ao5 y167.length co5) y167) := ⟨by refine Sq.rk ?_; exact Kd.R_mono (Kd.R_far (p := ⟨gb170, 4, none⟩) (Kd.R_types HO_171003.out BK170.out (by decide)) (fun _ hk => hk.2) (.string (rdOf ByteArray.empty t181 2))) (fun _ hk => trivial)⟩
                  have n2_ : Aside0 ((wc.setCell ⟨gb170, 4, none⟩ (.string (rdOf ByteArray.empty t181 2))).heap[gb166]? = some (.cells #[.int .i64 0, .int .i64 0, .int .i64 0, .slice none 0 0, .string (⟨#[]⟩ : ByteArray), .string (⟨#[]⟩ : ByteArray)] 24 (0, 0))) := ⟨by refine Sq.bk ?_; refine blk_far ?_ NB166_170.out _; exact Sq.bk BK166.out⟩
                  have n3_ : Aside0 ((wc.setCell ⟨gb170, 4, none⟩ (.string (rdOf ByteArray.empty t181 2))).heap[gb170]? = some (.cells #[.int .i64 x171000_1, .int .i64 t187, .int .i64 0, .slice Ao5 y167.length co5, .string (rdOf ByteArray.empty t181 2), .string t182] 24 (0, 0))) := ⟨by refine Sq.bk ?_; refine blk_put (cs := #[.int .i64 x171000_1, .int .i64 t187, .int .i64 0, .slice Ao5 y167.length co5, .string (⟨#[]⟩ : ByteArray), .string t182]) ?_ 4 _ rfl; exact Sq.bk BK170.out⟩
                  have n4_ : Aside0 (Below w.heap.size w (wc.setCell ⟨gb170, 4, none⟩ (.string (rdOf ByteArray.empty t181 2)))) := ⟨by repeat (first | (with_reducible first | exact HB.out | apply below_alloc | apply pw_below_drewN | apply below_drew1 | refine below_set ?_ GE166.out | refine below_set ?_ GE170.out) | exact HB.out)⟩
                  (try clear HO_9)
                  (try clear HO_171003)
                  (try clear BK166)
                  (try clear BK170)
                  (try clear HB)
                  generalize (wc.setCell ⟨gb170, 4, none⟩ (.string (rdOf ByteArray.empty t181 2))) = w264 at n0_ n1_ n2_ n3_ n4_ ⊢
                  have HO_9 := n0_
                  have HO_171003 := n1_
                  have BK166 := n2_
                  have BK170 := n3_
                  have HB := n4_
                  clear n0_ n1_ n2_ n3_ n4_
                  refine reg30c A261.out NB170_166.out BK166.out BK170.out (Kd.R_mono HO_171003.out (fun _ _ => trivial)) HB.out GE166.out (fun _ _ _ _ _ h => h) ?_
                  intro z118_ z119_ z120_ z121_ z122_ z123_ z124_ z125_ z126_ wz_ bz_ oz_ hz_
                  have BZ_ := Aside0.mk bz_
                  have OZ_ := Aside0.mk oz_
                  have HZ_ := Aside0.mk hz_
                  clear bz_ oz_ hz_
                  try go_wp2
                  refine bodyPost_ret (results_ct rfl _ _ gb166 24 #[.int .i64 x171000_1, .int .i64 t187, .int .i64 0, .slice Ao5 y167.length co5, .string (rdOf ByteArray.empty t181 2), .string t182] (0, 0) _ rfl BZ_.out Tryz.underlying24 rfl (by kernel_rfl)) rfl ?_
                  exact ⟨_, by first | rfl | (simp [errW_none, errW_some] <;> rfl) | (simp [*, errW_none, errW_some] <;> rfl), OZ_.out, HZ_.out⟩
                 ·replace c260 := Bool.eq_false_iff.mpr c260
                  subst c260
                  rw [if_neg (show ¬ (false = true) by decide)] at H
                  try dsimp -failIfUnchanged -simprocs only at H
                  simp only [Option.some.injEq, Prod.mk.injEq] at H
                  obtain ⟨rfl, rfl, rfl, rfl, rfl, rfl, rfl⟩ := H
                  have p203 : 0 ≤ (2 : Int) := (by omega)
                  have q203 : 2 < (t181.length : Int) := of_decide_eq_true (by first | (with_reducible assumption) | assumption)
                  obtain ⟨ad203, e203, hx203_0⟩ := Kd.at_string (Kd.R_reads' HO_9.out).2.2 2 p203 q203
                  obtain rfl : ad186 = ad203 := (by injection e203)
                  (try simp only [show (2 : Int).toNat = 2 from rfl, Nat.reduceMul, Nat.reduceEqDiff, Go.Addr.add, ↓reduceIte] at hx203_0)
                  have qi203 : (2 < t181.length) = True := eq_true (by omega)
                  (try rw [show ((2 : Int)).toNat = 2 from rfl] at hx203_0)
                  replace p203 := eq_true p203
                  replace q203 := eq_true q203
                  have hnb273 := NB170_166.out
                  have hnc273 := NB166_170.out
                  obtain ⟨hcz274_0, hcz274_1, hcz274_2, hcz274_3, hcz274_4, hcz274_5⟩ := Sq.c6 BK170.out
                  have hfz274_0 := Sq.fz BK170.out
                  try go_wp2
                  have n0_ : Aside0 (Kd.R Kd.string 9 (wc.setCell ⟨gb170, 4, none⟩ (.string (rdOf ByteArray.empty t181 2))) w.heap.size (fun _ => True) (.slice (some ad186) t181.length co56) t181) := ⟨by refine Sq.rk ?_; exact Kd.R_mono (Kd.R_far (p := ⟨gb170, 4, none⟩) (Kd.R_types HO_9.out BK170.out (by decide)) (fun _ hk => hk.2) (.string (rdOf ByteArray.empty t181 2))) (fun _ hk => trivial)⟩
                  have n1_ : Aside0 (Kd.R (Kd.int .i64) 3 (wc.setCell ⟨gb170, 4, none⟩ (.string (rdOf ByteArray.empty t181 2))) w.heap.size (fun _ => True) (.slice Ao5 y167.length co5) y167) := ⟨by refine Sq.rk ?_; exact Kd.R_mono (Kd.R_far (p := ⟨gb170, 4, none⟩) (Kd.R_types HO_171003.out BK170.out (by decide)) (fun _ hk => hk.2) (.string (rdOf ByteArray.empty t181 2))) (fun _ hk => trivial)⟩
                  have n2_ : Aside0 ((wc.setCell ⟨gb170, 4, none⟩ (.string (rdOf ByteArray.empty t181 2))).heap[gb166]? = some (.cells #[.int .i64 0, .int .i64 0, .int .i64 0, .slice none 0 0, .string (⟨#[]⟩ : ByteArray), .string (⟨#[]⟩ : ByteArray)] 24 (0, 0))) := ⟨by refine Sq.bk ?_; refine blk_far ?_ NB166_170.out _; exact Sq.bk BK166.out⟩
                  have n3_ : Aside0 ((wc.setCell ⟨gb170, 4, none⟩ (.string (rdOf ByteArray.empty t181 2))).heap[gb170]? = some (.cells #[.int .i64 x171000_1, .int .i64 t187, .int .i64 0, .slice Ao5 y167.length co5, .string (rdOf ByteArray.empty t181 2), .string t182] 24 (0, 0))) := ⟨by refine Sq.bk ?_; refine blk_put (cs := #[.int .i64 x171000_1, .int .i64 t187, .int .i64 0, .slice Ao5 y167.length co5, .string (⟨#[]⟩ : ByteArray), .string t182]) ?_ 4 _ rfl; exact Sq.bk BK170.out⟩
                  have n4_ : Aside0 (Below w.heap.size w (wc.setCell ⟨gb170, 4, none⟩ (.string (rdOf ByteArray.empty t181 2)))) := ⟨by repeat (first | (with_reducible first | exact HB.out | apply below_alloc | apply pw_below_drewN | apply below_drew1 | refine below_set ?_ GE166.out | refine below_set ?_ GE170.out) | exact HB.out)⟩
                  (try clear HO_9)
                  (try clear HO_171003)
                  (try clear BK166)
                  (try clear BK170)
                  (try clear HB)
                  generalize (wc.setCell ⟨gb170, 4, none⟩ (.string (rdOf ByteArray.empty t181 2))) = w275 at n0_ n1_ n2_ n3_ n4_ ⊢
                  have HO_9 := n0_
                  have HO_171003 := n1_
                  have BK166 := n2_
                  have BK170 := n3_
                  have HB := n4_
                  clear n0_ n1_ n2_ n3_ n4_
                  refine reg30b NB170_166.out BK166.out BK170.out (Kd.R_mono HO_171003.out (fun _ _ => trivial)) HB.out GE166.out (fun _ _ _ _ _ h => h) ?_
                  intro z118_ z119_ z120_ z121_ z122_ z123_ z124_ z125_ z126_ wz_ bz_ oz_ hz_
                  have BZ_ := Aside0.mk bz_
                  have OZ_ := Aside0.mk oz_
                  have HZ_ := Aside0.mk hz_
                  clear bz_ oz_ hz_
                  try go_wp2
                  refine bodyPost_ret (results_ct rfl _ _ gb166 24 #[.int .i64 x171000_1, .int .i64 t187, .int .i64 0, .slice Ao5 y167.length co5, .string (rdOf ByteArray.empty t181 2), .string t182] (0, 0) _ rfl BZ_.out Tryz.underlying24 rfl (by kernel_rfl)) rfl ?_
                  exact ⟨_, by first | rfl | (simp [errW_none, errW_some] <;> rfl) | (simp [*, errW_none, errW_some] <;> rfl), OZ_.out, HZ_.out⟩
                ·exact absurd rfl c259
              ·rw [if_neg c222] at H
               exact absurd H (by simp)
             ·rw [if_neg c221] at H
              have c221b0 : (x171000_1 == 1) = false := beq_eq_false_iff_ne.mpr c221
              have c221b1 : (x171000_1 != 1) = true := bne_iff_ne.mpr c221
              by_cases c293 : t179 = 4
              ·rw [if_pos c293] at H
               have c293b0 : (t179 == 4) = true := beq_iff_eq.mpr c293
               have c293b1 : (t179 != 4) = false := bne_eq_false_iff_eq.mpr c293
               clear c293
               by_cases c294 : 3 < (t181.length : Int)
               ·rw [if_pos c294] at H
                have c294b0 : decide (3 < (t181.length : Int)) = true := decide_eq_true c294
                have c294b1 : decide (3 < t181.length) = true := decide_eq_true (by omega)
                clear c294
                by_cases c295 : true = true
                ·clear c295
                 first | rw [if_pos rfl] at H | rw [if_pos trivial] at H
                 try dsimp -failIfUnchanged -simprocs only at H
                 by_cases c296 : t188 = true
                 ·subst c296
                  first | rw [if_pos rfl] at H | rw [if_pos trivial] at H
                  try dsimp -failIfUnchanged -simprocs only at H
                  replace H := Option.bind_eq_some_iff.mp H
                  obtain ⟨t208, A2970, H⟩ := H
                  try dsimp -failIfUnchanged -simprocs only at H
                  have A297 := Aside0.mk A2970
                  clear A2970
                  simp only [Option.some.injEq, Prod.mk.injEq] at H
                  obtain ⟨rfl, rfl, rfl, rfl, rfl, rfl, rfl⟩ := H
                  have p207 : 0 ≤ (3 : Int) := (by omega)
                  have q207 : 3 < (t181.length : Int) := of_decide_eq_true (by first | (with_reducible assumption) | assumption)
                  obtain ⟨ad207, e207, hx207_0⟩ := Kd.at_string (Kd.R_reads' HO_9.out).2.2 3 p207 q207
                  obtain rfl : ad186 = ad207 := (by injection e207)
                  (try simp only [show (3 : Int).toNat = 3 from rfl, Nat.reduceMul, Nat.reduceEqDiff, Go.Addr.add, ↓reduceIte] at hx207_0)
                  have qi207 : (3 < t181.length) = True := eq_true (by omega)
                  (try rw [show ((3 : Int)).toNat = 3 from rfl] at hx207_0)
                  replace p207 := eq_true p207
                  replace q207 := eq_true q207
                  have hnb298 := NB170_166.out
                  have hnc298 := NB166_170.out
                  obtain ⟨hcz299_0, hcz299_1, hcz299_2, hcz299_3, hcz299_4, hcz299_5⟩ := Sq.c6 BK170.out
                  have hfz299_0 := Sq.fz BK170.out
                  try go_wp2
                  have n0_ : Aside0 (Kd.R Kd.string 9 (wc.setCell ⟨gb170, 4, none⟩ (.string (rdOf ByteArray.empty t181 3))) w.heap.size (fun _ => True) (.slice (some ad186) t181.length co56) t181) := ⟨by refine Sq.rk ?_; exact Kd.R_mono (Kd.R_far (p := ⟨gb170, 4, none⟩) (Kd.R_types HO_9.out BK170.out (by decide)) (fun _ hk => hk.2) (.string (rdOf ByteArray.empty t181 3))) (fun _ hk => trivial)⟩
                  have n1_ : Aside0 (Kd.R (Kd.int .i64) 3 (wc.setCell ⟨gb170, 4, none⟩ (.string (rdOf ByteArray.empty t181 3))) w.heap.size (fun _ => True) (.slice Ao5 y167.length co5) y167) := ⟨by refine Sq.rk ?_; exact Kd.R_mono (Kd.R_far (p := ⟨gb170, 4, none⟩) (Kd.R_types HO_171003.out BK170.out (by decide)) (fun _ hk => hk.2) (.string (rdOf ByteArray.empty t181 3))) (fun _ hk => trivial)⟩
                  have n2_ : Aside0 ((wc.setCell ⟨gb170, 4, none⟩ (.string (rdOf ByteArray.empty t181 3))).heap[gb166]? = some (.cells #[.int .i64 0, .int .i64 0, .int .i64 0, .slice none 0 0, .string (⟨#[]⟩ : ByteArray), .string (⟨#[]⟩ : ByteArray)] 24 (0, 0))) := ⟨by refine Sq.bk ?_; refine blk_far ?_ NB166_170.out _; exact Sq.bk BK166.out⟩
                  have n3_ : Aside0 ((wc.setCell ⟨gb170, 4, none⟩ (.string (rdOf ByteArray.empty t181 3))).heap[gb170]? = some (.cells #[.int .i64 x171000_1, .int .i64 t187, .int .i64 0, .slice Ao5 y167.length co5, .string (rdOf ByteArray.empty t181 3), .string t182] 24 (0, 0))) := ⟨by refine Sq.bk ?_; refine blk_put (cs := #[.int .i64 x171000_1, .int .i64 t187, .int .i64 0, .slice Ao5 y167.length co5, .string (⟨#[]⟩ : ByteArray), .string t182]) ?_ 4 _ rfl; exact Sq.bk BK170.out⟩
                  have n4_ : Aside0 (Below w.heap.size w (wc.setCell ⟨gb170, 4, none⟩ (.string (rdOf ByteArray.empty t181 3)))) := ⟨by repeat (first | (with_reducible first | exact HB.out | apply below_alloc | apply pw_below_drewN | apply below_drew1 | refine below_set ?_ GE166.out | refine below_set ?_ GE170.out) | exact HB.out)⟩
                  (try clear HO_9)
                  (try clear HO_171003)
                  (try clear BK166)
                  (try clear BK170)
                  (try clear HB)
                  generalize (wc.setCell ⟨gb170, 4, none⟩ (.string (rdOf ByteArray.empty t181 3))) = w300 at n0_ n1_ n2_ n3_ n4_ ⊢
                  have HO_9 := n0_
                  have HO_171003 := n1_
                  have BK166 := n2_
                  have BK170 := n3_
                  have HB := n4_
                  clear n0_ n1_ n2_ n3_ n4_
                  refine reg30c A297.out NB170_166.out BK166.out BK170.out (Kd.R_mono HO_171003.out (fun _ _ => trivial)) HB.out GE166.out (fun _ _ _ _ _ h => h) ?_
                  intro z118_ z119_ z120_ z121_ z122_ z123_ z124_ z125_ z126_ wz_ bz_ oz_ hz_
                  have BZ_ := Aside0.mk bz_
                  have OZ_ := Aside0.mk oz_
                  have HZ_ := Aside0.mk hz_
                  clear bz_ oz_ hz_
                  try go_wp2
                  refine bodyPost_ret (results_ct rfl _ _ gb166 24 #[.int .i64 x171000_1, .int .i64 t187, .int .i64 0, .slice Ao5 y167.length co5, .string (rdOf ByteArray.empty t181 3), .string t182] (0, 0) _ rfl BZ_.out Tryz.underlying24 rfl (by kernel_rfl)) rfl ?_
                  exact ⟨_, by first | rfl | (simp [errW_none, errW_some] <;> rfl) | (simp [*, errW_none, errW_some] <;> rfl), OZ_.out, HZ_.out⟩
                 ·replace c296 := Bool.eq_false_iff.mpr c296
                  subst c296
                  rw [if_neg (show ¬ (false = true) by decide)] at H
                  try dsimp -failIfUnchanged -simprocs only at H
                  simp only [Option.some.injEq, Prod.mk.injEq] at H
                  obtain ⟨rfl, rfl, rfl, rfl, rfl, rfl, rfl⟩ := H
                  have p207 : 0 ≤ (3 : Int) := (by omega)
                  have q207 : 3 < (t181.length : Int) := of_decide_eq_true (by first | (with_reducible assumption) | assumption)
                  obtain ⟨ad207, e207, hx207_0⟩ := Kd.at_string (Kd.R_reads' HO_9.out).2.2 3 p207 q207
                  obtain rfl : ad186 = ad207 := (by injection e207)
                  (try simp only [show (3 : Int).toNat = 3 from rfl, Nat.reduceMul, Nat.reduceEqDiff, Go.Addr.add, ↓reduceIte] at hx207_0)
                  have qi207 : (3 < t181.length) = True := eq_true (by omega)
                  (try rw [show ((3 : Int)).toNat = 3 from rfl] at hx207_0)
                  replace p207 := eq_true p207
                  replace q207 := eq_true q207
                  have hnb309 := NB170_166.out
                  have hnc309 := NB166_170.out
                  obtain ⟨hcz310_0, hcz310_1, hcz310_2, hcz310_3, hcz310_4, hcz310_5⟩ := Sq.c6 BK170.out
                  have hfz310_0 := Sq.fz BK170.out
                  try go_wp2
                  have n0_ : Aside0 (Kd.R Kd.string 9 (wc.setCell ⟨gb170, 4, none⟩ (.string (rdOf ByteArray.empty t181 3))) w.heap.size (fun _ => True) (.slice (some ad186) t181.length co56) t181) := ⟨by refine Sq.rk ?_; exact Kd.R_mono (Kd.R_far (p := ⟨gb170, 4, none⟩) (Kd.R_types HO_9.out BK170.out (by decide)) (fun _ hk => hk.2) (.string (rdOf ByteArray.empty t181 3))) (fun _ hk => trivial)⟩
                  have n1_ : Aside0 (Kd.R (Kd.int .i64) 3 (wc.setCell ⟨gb170, 4, none⟩ (.string (rdOf ByteArray.empty t181 3))) w.heap.size (fun _ => True) (.slice Ao5 y167.length co5) y167) := ⟨by refine Sq.rk ?_; exact Kd.R_mono (Kd.R_far (p := ⟨gb170, 4, none⟩) (Kd.R_types HO_171003.out BK170.out (by decide)) (fun _ hk => hk.2) (.string (rdOf ByteArray.empty t181 3))) (fun _ hk => trivial)⟩
                  have n2_ : Aside0 ((wc.setCell ⟨gb170, 4, none⟩ (.string (rdOf ByteArray.empty t181 3))).heap[gb166]? = some (.cells #[.int .i64 0, .int .i64 0, .int .i64 0, .slice none 0 0, .string (⟨#[]⟩ : ByteArray), .string (⟨#[]⟩ : ByteArray)] 24 (0, 0))) := ⟨by refine Sq.bk ?_; refine blk_far ?_ NB166_170.out _; exact Sq.bk BK166.out⟩
                  have n3_ : Aside0 ((wc.setCell ⟨gb170, 4, none⟩ (.string (rdOf ByteArray.empty t181 3))).heap[gb170]? = some (.cells #[.int .i64 x171000_1, .int .i64 t187, .int .i64 0, .slice Ao5 y167.length co5, .string (rdOf ByteArray.empty t181 3), .string t182] 24 (0, 0))) := ⟨by refine Sq.bk ?_; refine blk_put (cs := #[.int .i64 x171000_1, .int .i64 t187, .int .i64 0, .slice Ao5 y167.length co5, .string (⟨#[]⟩ : ByteArray), .string t182]) ?_ 4 _ rfl; exact Sq.bk BK170.out⟩
                  have n4_ : Aside0 (Below w.heap.size w (wc.setCell ⟨gb170, 4, none⟩ (.string (rdOf ByteArray.empty t181 3)))) := ⟨by repeat (first | (with_reducible first | exact HB.out | apply below_alloc | apply pw_below_drewN | apply below_drew1 | refine below_set ?_ GE166.out | refine below_set ?_ GE170.out) | exact HB.out)⟩
                  (try clear HO_9)
                  (try clear HO_171003)
                  (try clear BK166)
                  (try clear BK170)
                  (try clear HB)
                  generalize (wc.setCell ⟨gb170, 4, none⟩ (.string (rdOf ByteArray.empty t181 3))) = w311 at n0_ n1_ n2_ n3_ n4_ ⊢
                  have HO_9 := n0_
                  have HO_171003 := n1_
                  have BK166 := n2_
                  have BK170 := n3_
                  have HB := n4_
                  clear n0_ n1_ n2_ n3_ n4_
                  refine reg30b NB170_166.out BK166.out BK170.out (Kd.R_mono HO_171003.out (fun _ _ => trivial)) HB.out GE166.out (fun _ _ _ _ _ h => h) ?_
                  intro z118_ z119_ z120_ z121_ z122_ z123_ z124_ z125_ z126_ wz_ bz_ oz_ hz_
                  have BZ_ := Aside0.mk bz_
                  have OZ_ := Aside0.mk oz_
                  have HZ_ := Aside0.mk hz_
                  clear bz_ oz_ hz_
                  try go_wp2
                  refine bodyPost_ret (results_ct rfl _ _ gb166 24 #[.int .i64 x171000_1, .int .i64 t187, .int .i64 0, .slice Ao5 y167.length co5, .string (rdOf ByteArray.empty t181 3), .string t182] (0, 0) _ rfl BZ_.out Tryz.underlying24 rfl (by kernel_rfl)) rfl ?_
                  exact ⟨_, by first | rfl | (simp [errW_none, errW_some] <;> rfl) | (simp [*, errW_none, errW_some] <;> rfl), OZ_.out, HZ_.out⟩
                ·exact absurd rfl c295
               ·rw [if_neg c294] at H
                exact absurd H (by simp)
              ·rw [if_neg c293] at H
               have c293b0 : (t179 == 4) = false := beq_eq_false_iff_ne.mpr c293
               have c293b1 : (t179 != 4) = true := bne_iff_ne.mpr c293
               by_cases c329 : true = true
               ·clear c329
                first | rw [if_pos rfl] at H | rw [if_pos trivial] at H
                try dsimp -failIfUnchanged -simprocs only at H
                by_cases c330 : t188 = true
                ·subst c330
                 first | rw [if_pos rfl] at H | rw [if_pos trivial] at H
                 try dsimp -failIfUnchanged -simprocs only at H
                 replace H := Option.bind_eq_some_iff.mp H
                 obtain ⟨t209, A3310, H⟩ := H
                 try dsimp -failIfUnchanged -simprocs only at H
                 have A331 := Aside0.mk A3310
                 clear A3310
                 simp only [Option.some.injEq, Prod.mk.injEq] at H
                 obtain ⟨rfl, rfl, rfl, rfl, rfl, rfl, rfl⟩ := H
                 try go_wp2
                 refine reg30c A331.out NB170_166.out BK166.out BK170.out (Kd.R_mono HO_171003.out (fun _ _ => trivial)) HB.out GE166.out (fun _ _ _ _ _ h => h) ?_
                 intro z118_ z119_ z120_ z121_ z122_ z123_ z124_ z125_ z126_ wz_ bz_ oz_ hz_
                 have BZ_ := Aside0.mk bz_
                 have OZ_ := Aside0.mk oz_
                 have HZ_ := Aside0.mk hz_
                 clear bz_ oz_ hz_
                 try go_wp2
                 refine bodyPost_ret (results_ct rfl _ _ gb166 24 #[.int .i64 x171000_1, .int .i64 t187, .int .i64 0, .slice Ao5 y167.length co5, .string (⟨#[]⟩ : ByteArray), .string t182] (0, 0) _ rfl BZ_.out Tryz.underlying24 rfl (by kernel_rfl)) rfl ?_
                 exact ⟨_, by first | rfl | (simp [errW_none, errW_some] <;> rfl) | (simp [*, errW_none, errW_some] <;> rfl), OZ_.out, HZ_.out⟩
                ·replace c330 := Bool.eq_false_iff.mpr c330
                 subst c330
                 rw [if_neg (show ¬ (false = true) by decide)] at H
                 try dsimp -failIfUnchanged -simprocs only at H
                 simp only [Option.some.injEq, Prod.mk.injEq] at H
                 obtain ⟨rfl, rfl, rfl, rfl, rfl, rfl, rfl⟩ := H
                 try go_wp2
                 refine reg30b NB170_166.out BK166.out BK170.out (Kd.R_mono HO_171003.out (fun _ _ => trivial)) HB.out GE166.out (fun _ _ _ _ _ h => h) ?_
                 intro z118_ z119_ z120_ z121_ z122_ z123_ z124_ z125_ z126_ wz_ bz_ oz_ hz_
                 have BZ_ := Aside0.mk bz_
                 have OZ_ := Aside0.mk oz_
                 have HZ_ := Aside0.mk hz_
                 clear bz_ oz_ hz_
                 try go_wp2
                 refine bodyPost_ret (results_ct rfl _ _ gb166 24 #[.int .i64 x171000_1, .int .i64 t187, .int .i64 0, .slice Ao5 y167.length co5, .string (⟨#[]⟩ : ByteArray), .string t182] (0, 0) _ rfl BZ_.out Tryz.underlying24 rfl (by kernel_rfl)) rfl ?_
                 exact ⟨_, by first | rfl | (simp [errW_none, errW_some] <;> rfl) | (simp [*, errW_none, errW_some] <;> rfl), OZ_.out, HZ_.out⟩
               ·exact absurd rfl c329
      ·rw [if_neg c49] at H
       exact absurd H (by simp)
     ·replace c48 := Bool.eq_false_iff.mpr c48
      subst c48
      rw [if_neg (show ¬ (false = true) by decide)] at H
      try dsimp -failIfUnchanged -simprocs only at H
      simp only [Option.some.injEq, Prod.mk.injEq] at H
      obtain ⟨rfl, rfl, rfl, rfl, rfl, rfl, rfl⟩ := H
      have hnb354 := NB170_166.out
      have hnc354 := NB166_170.out
      obtain ⟨hcz355_0, hcz355_1, hcz355_2, hcz355_3, hcz355_4, hcz355_5⟩ := Sq.c6 BK170.out
      have hfz355_0 := Sq.fz BK170.out
      go_wp2_with (first | ((with_reducible refine gate_callee (f := 16) rfl ?_); refine Sq.goM (some 55) Tryz.func16 #[.int .i64 x171000_1] ?_; (with_reducible refine (spec_l12Parts.calls x171000_1 t179 t180 _ A46.out).mono ?_); rintro e w356 ⟨rfl, hb⟩; refine ⟨_, rfl, ?_⟩; have n0_ := Aside0.mk (Kd.R_below (by exact Sq.rk HO_171003.out) hb); have n1_ := Aside0.mk (blk_below (g := gb166) (o := .cells #[.int .i64 0, .int .i64 0, .int .i64 0, .slice none 0 0, .string (⟨#[]⟩ : ByteArray), .string (⟨#[]⟩ : ByteArray)] 24 (0, 0)) (by exact Sq.bk BK166.out) hb); have n2_ := Aside0.mk (blk_below (g := gb170) (o := .cells #[.int .i64 x171000_1, .int .i64 0, .int .i64 0, .slice Ao5 y167.length co5, .string (⟨#[]⟩ : ByteArray), .string (⟨#[]⟩ : ByteArray)] 24 (0, 0)) (by exact Sq.bk BK170.out) hb); have n3_ := Aside0.mk (below_step (by repeat (first | (with_reducible first | exact HB.out | apply below_alloc | apply pw_below_drewN | apply below_drew1 | refine below_set ?_ GE166.out | refine below_set ?_ GE170.out) | exact HB.out)) hb); clear HO_171003; clear BK166; clear BK170; clear HB; have HO_171003 := n0_; have BK166 := n1_; have BK170 := n2_; have HB := n3_; clear n0_ n1_ n2_ n3_; (try clear hb); (try clear hb2); (try clear hk); (try clear hi)) | ((with_reducible refine gate_callee (f := 17) rfl ?_); refine Sq.goM (some 62) Tryz.func17 #[.string a0, .int .i64 t179, .bool t180] ?_; (with_reducible refine (spec_l12Head.calls k1 a0 t179 t180 t181 t182 false _ A47.out).mono ?_); rintro e w357 ⟨v184, rfl, ho0, hb⟩; refine ⟨_, rfl, ?_⟩; have n0_ := Aside0.mk (Kd.R_below (by exact Sq.rk HO_171003.out) hb); have n1_ := Aside0.mk (Kd.R_lower ho0 (below_size (by repeat (first | (with_reducible first | exact HB.out | apply below_alloc | apply pw_below_drewN | apply below_drew1 | refine below_set ?_ GE166.out | refine below_set ?_ GE170.out) | exact HB.out)))); have n2_ := Aside0.mk (blk_below (g := gb166) (o := .cells #[.int .i64 0, .int .i64 0, .int .i64 0, .slice none 0 0, .string (⟨#[]⟩ : ByteArray), .string (⟨#[]⟩ : ByteArray)] 24 (0, 0)) (by exact Sq.bk BK166.out) hb); have n3_ := Aside0.mk (blk_below (g := gb170) (o := .cells #[.int .i64 x171000_1, .int .i64 0, .int .i64 0, .slice Ao5 y167.length co5, .string (⟨#[]⟩ : ByteArray), .string (⟨#[]⟩ : ByteArray)] 24 (0, 0)) (by exact Sq.bk BK170.out) hb); have n4_ := Aside0.mk (below_step (by repeat (first | (with_reducible first | exact HB.out | apply below_alloc | apply pw_below_drewN | apply below_drew1 | refine below_set ?_ GE166.out | refine below_set ?_ GE170.out) | exact HB.out)) hb); clear HO_171003; clear BK166; clear BK170; clear HB; have HO_171003 := n0_; have HO185 := n1_; have BK166 := n2_; have BK170 := n3_; have HB := n4_; clear n0_ n1_ n2_ n3_ n4_; (try clear hb); (try clear hb2); (try clear hk); (try clear hi); (try clear ho0); have hcz358_0 : w357.cell? ⟨gb170, 0, none⟩ = some (.int .i64 x171000_1) := (blk_cell BK170.out 0).trans rfl; have hcz358_1 : w357.cell? ⟨gb170, 1, none⟩ = some (.int .i64 0) := (blk_cell BK170.out 1).trans rfl; have hcz358_2 : w357.cell? ⟨gb170, 2, none⟩ = some (.int .i64 0) := (blk_cell BK170.out 2).trans rfl; have hcz358_3 : w357.cell? ⟨gb170, 3, none⟩ = some (.slice Ao5 y167.length co5) := (blk_cell BK170.out 3).trans rfl; have hcz358_4 : w357.cell? ⟨gb170, 4, none⟩ = some (.string (⟨#[]⟩ : ByteArray)) := (blk_cell BK170.out 4).trans rfl; have hcz358_5 : w357.cell? ⟨gb170, 5, none⟩ = some (.string (⟨#[]⟩ : ByteArray)) := (blk_cell BK170.out 5).trans rfl; have hcz359_0 : w357.cell? ⟨gb166, 0, none⟩ = some (.int .i64 0) := (blk_cell BK166.out 0).trans rfl; have hcz359_1 : w357.cell? ⟨gb166, 1, none⟩ = some (.int .i64 0) := (blk_cell BK166.out 1).trans rfl; have hcz359_2 : w357.cell? ⟨gb166, 2, none⟩ = some (.int .i64 0) := (blk_cell BK166.out 2).trans rfl; have hcz359_3 : w357.cell? ⟨gb166, 3, none⟩ = some (.slice none 0 0) := (blk_cell BK166.out 3).trans rfl; have hcz359_4 : w357.cell? ⟨gb166, 4, none⟩ = some (.string (⟨#[]⟩ : ByteArray)) := (blk_cell BK166.out 4).trans rfl; have hcz359_5 : w357.cell? ⟨gb166, 5, none⟩ = some (.string (⟨#[]⟩ : ByteArray)) := (blk_cell BK166.out 5).trans rfl; have hfz358_0 := blk_frozen BK170.out 0; have hfz358_1 := blk_frozen BK170.out 1; have hfz358_2 := blk_frozen BK170.out 2; have hfz358_3 := blk_frozen BK170.out 3; have hfz358_4 := blk_frozen BK170.out 4; have hfz358_5 := blk_frozen BK170.out 5; have hfz359_0 := blk_frozen BK166.out 0; have hfz359_1 := blk_frozen BK166.out 1; have hfz359_2 := blk_frozen BK166.out 2; have hfz359_3 := blk_frozen BK166.out 3; have hfz359_4 := blk_frozen BK166.out 4; have hfz359_5 := blk_frozen BK166.out 5))
      refine bodyPost_ret (results_ct rfl _ _ gb166 24 #[.int .i64 x171000_1, .int .i64 0, .int .i64 0, .slice Ao5 y167.length co5, .string (⟨#[]⟩ : ByteArray), .string (⟨#[]⟩ : ByteArray)] (0, 0) _ rfl (by refine Sq.bk ?_; refine blk_put (cs := #[.int .i64 x171000_1, .int .i64 0, .int .i64 0, .slice Ao5 y167.length co5, .string (⟨#[]⟩ : ByteArray), .string (⟨#[]⟩ : ByteArray)]) ?_ 5 _ rfl; refine Sq.bk ?_; refine blk_put (cs := #[.int .i64 x171000_1, .int .i64 0, .int .i64 0, .slice Ao5 y167.length co5, .string (⟨#[]⟩ : ByteArray), .string (⟨#[]⟩ : ByteArray)]) ?_ 4 _ rfl; refine Sq.bk ?_; refine blk_put (cs := #[.int .i64 x171000_1, .int .i64 0, .int .i64 0, .slice none 0 0, .string (⟨#[]⟩ : ByteArray), .string (⟨#[]⟩ : ByteArray)]) ?_ 3 _ rfl; refine Sq.bk ?_; refine blk_put (cs := #[.int .i64 x171000_1, .int .i64 0, .int .i64 0, .slice none 0 0, .string (⟨#[]⟩ : ByteArray), .string (⟨#[]⟩ : ByteArray)]) ?_ 2 _ rfl; refine Sq.bk ?_; refine blk_put (cs := #[.int .i64 x171000_1, .int .i64 0, .int .i64 0, .slice none 0 0, .string (⟨#[]⟩ : ByteArray), .string (⟨#[]⟩ : ByteArray)]) ?_ 1 _ rfl; refine Sq.bk ?_; refine blk_put (cs := #[.int .i64 0, .int .i64 0, .int .i64 0, .slice none 0 0, .string (⟨#[]⟩ : ByteArray), .string (⟨#[]⟩ : ByteArray)]) ?_ 0 _ rfl; exact Sq.bk BK166.out) Tryz.underlying24 rfl (by kernel_rfl)) rfl ?_
      exact ⟨_, by first | rfl | (simp [errW_none, errW_some] <;> rfl) | (simp [*, errW_none, errW_some] <;> rfl), by refine Sq.rk ?_; exact Kd.R_mono (Kd.R_far (p := ⟨gb166, 5, none⟩) (Kd.R_far (p := ⟨gb166, 4, none⟩) (Kd.R_far (p := ⟨gb166, 3, none⟩) (Kd.R_far (p := ⟨gb166, 2, none⟩) (Kd.R_far (p := ⟨gb166, 1, none⟩) (Kd.R_far (p := ⟨gb166, 0, none⟩) (Kd.R_types HO_171003.out BK166.out (by decide)) (fun _ hk => hk.2) (.int .i64 x171000_1)) (fun _ hk => hk.2) (.int .i64 0)) (fun _ hk => hk.2) (.int .i64 0)) (fun _ hk => hk.2) (.slice Ao5 y167.length co5)) (fun _ hk => hk.2) (.string (⟨#[]⟩ : ByteArray))) (fun _ hk => hk.2) (.string (⟨#[]⟩ : ByteArray))) (fun _ hk => trivial), by repeat (first | (with_reducible first | exact HB.out | apply below_alloc | apply pw_below_drewN | apply below_drew1 | refine below_set ?_ GE166.out | refine below_set ?_ GE170.out) | exact HB.out)⟩
end Go.Proofs.YtfjnlliilnmfaaaGreatDoor.RC
end
