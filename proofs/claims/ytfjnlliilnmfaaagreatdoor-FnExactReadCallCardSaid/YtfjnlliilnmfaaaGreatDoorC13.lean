/-
  WRITTEN BY wip/tools/prune.py out of this claim's texts: the declarations that the theorem comes to, and no others. In it: PRClx2.
-/
import Derived.Test.YtfjnlliilnmfaaaGreatDoorC12
section
namespace Go.Proofs.YtfjnlliilnmfaaaGreatDoor.PRCl
open Go.Proofs.YtfjnlliilnmfaaaGreatDoor.Given
open Go.Proofs.YtfjnlliilnmfaaaGreatDoor.RC
open Go.Proofs.YtfjnlliilnmfaaaGreatDoor.RF
open Go.RowKit Go.Proofs.YtfjnlliilnmfaaaGreatDoorW.PrintWords Go.Proofs.YtfjnlliilnmfaaaGreatDoorW.PrintLast Go.Proofs.YtfjnlliilnmfaaaGreatDoorW.PrintMore
attribute [local go_sem] max2_int min2_int max_two min_two max_three min_three max_four min_four
set_option linter.unusedVariables false
set_option linter.unusedSimpArgs false
mutual
def laws_FnExactReadCall.j0 : Nat → ByteArray → Int → Bool → Int → Int → Int → List Int → ByteArray → ByteArray → Int → Int → Int → List Int → ByteArray → ByteArray → Option (Bool)
  | 0, _, _, _, _, _, _, _, _, _, _, _, _, _, _, _ => none
  | k + 1, x0, x4, x32, x149000, x149001, x149002, x149003, x149004, x149005, x159000, x159001, x159002, x159003, x159004, x159005 => if x32 = true then (some false) else ((laws_markCall.f k x159000 x159001 x159002 x159003 x159004 x159005 1).bind fun bt160 => ((laws_heldCall.f k x159000 x159001 x159002 bt160.2 x159004 x159005 1).bind fun t162 => (if t162 < 0 then (some false) else (if t162 = bt160.1 then ((impl_ReadCall.f k x0).bind fun bt163 => ((laws_eqCall.f k bt163.1 bt163.2.1 bt163.2.2.1 bt163.2.2.2.1 bt163.2.2.2.2.1 bt163.2.2.2.2.2.1 x149000 x149001 x149002 x149003 x149004 x149005).bind fun t173 => (if t173 = true then (laws_FnExactReadCall.j1 k bt160.1 (bt163.2.2.2.2.2.2 != x4) x159000 x159001 x159002 bt160.2 x159004 x159005) else (laws_FnExactReadCall.j1 k bt160.1 true x159000 x159001 x159002 bt160.2 x159004 x159005)))) else (some false)))))
def laws_FnExactReadCall.j1 : Nat → Int → Bool → Int → Int → Int → List Int → ByteArray → ByteArray → Option (Bool)
  | 0, _, _, _, _, _, _, _, _ => none
  | k + 1, x7, x57, x159000, x159001, x159002, x159003, x159004, x159005 => if x57 = true then (some false) else ((laws_heldCall.f k x159000 x159001 x159002 x159003 x159004 x159005 1).bind fun t174 => (if t174 < 0 then (some false) else (if t174 = x7 then (some true) else (some false))))
end
def laws_FnExactReadCall.f (k : Nat) (a0 : ByteArray) : Option (Bool) := if (a0.size : Int) > 1048576 then (some true) else ((spec_ReadCall.f k a0).bind fun bt139 => ((impl_ReadCall.f k a0).bind fun bt149 => ((laws_eqCall.f k bt149.1 bt149.2.1 bt149.2.2.1 bt149.2.2.2.1 bt149.2.2.2.2.1 bt149.2.2.2.2.2.1 bt139.1 bt139.2.1 bt139.2.2.1 bt139.2.2.2.1 bt139.2.2.2.2.1 bt139.2.2.2.2.2.1).bind fun t159 => (if t159 = true then (laws_FnExactReadCall.j0 k a0 bt139.2.2.2.2.2.2 (bt149.2.2.2.2.2.2 != bt139.2.2.2.2.2.2) bt139.1 bt139.2.1 bt139.2.2.1 bt139.2.2.2.1 bt139.2.2.2.2.1 bt139.2.2.2.2.2.1 bt149.1 bt149.2.1 bt149.2.2.1 bt149.2.2.2.1 bt149.2.2.2.2.1 bt149.2.2.2.2.2.1) else (laws_FnExactReadCall.j0 k a0 bt139.2.2.2.2.2.2 true bt139.1 bt139.2.1 bt139.2.2.1 bt139.2.2.2.1 bt139.2.2.2.2.1 bt139.2.2.2.2.2.1 bt149.1 bt149.2.1 bt149.2.2.1 bt149.2.2.2.1 bt149.2.2.2.2.1 bt149.2.2.2.2.2.1)))))
set_option maxHeartbeats 8000000 in
set_option maxRecDepth 100000 in
theorem laws_FnExactReadCall.calls (k : Nat) (a0 : ByteArray) (r : Bool) (w : World) (gw : GW w) (h : laws_FnExactReadCall.f k a0 = some r) :
  Calls Tryz.prog 3 #[.string a0] w fun e w' => e = .returned (.bool r) ∧ Below w.heap.size w w' := by
 have hu24 := Tryz.underlying24
 have HG := Aside0.mk gw
 clear gw
 have HB := Aside0.mk (Below.refl w.heap.size w)
 have H : (if (a0.size : Int) > 1048576 then (some true) else ((spec_ReadCall.f k a0).bind fun bt139 => ((impl_ReadCall.f k a0).bind fun bt149 => ((laws_eqCall.f k bt149.1 bt149.2.1 bt149.2.2.1 bt149.2.2.2.1 bt149.2.2.2.2.1 bt149.2.2.2.2.2.1 bt139.1 bt139.2.1 bt139.2.2.1 bt139.2.2.2.1 bt139.2.2.2.2.1 bt139.2.2.2.2.2.1).bind fun t159 => (if t159 = true then (laws_FnExactReadCall.j0 k a0 bt139.2.2.2.2.2.2 (bt149.2.2.2.2.2.2 != bt139.2.2.2.2.2.2) bt139.1 bt139.2.1 bt139.2.2.1 bt139.2.2.2.1 bt139.2.2.2.2.1 bt139.2.2.2.2.2.1 bt149.1 bt149.2.1 bt149.2.2.1 bt149.2.2.2.1 bt149.2.2.2.2.1 bt149.2.2.2.2.2.1) else (laws_FnExactReadCall.j0 k a0 bt139.2.2.2.2.2.2 true bt139.1 bt139.2.1 bt139.2.2.1 bt139.2.2.2.1 bt139.2.2.2.2.1 bt139.2.2.2.2.2.1 bt149.1 bt149.2.1 bt149.2.2.1 bt149.2.2.2.1 bt149.2.2.2.2.1 bt149.2.2.2.2.2.1)))))) = some r := h
 clear h
 by_cases c2 : (a0.size : Int) > 1048576
 ·rw [if_pos c2] at H
  have c2b0 : decide (1048576 < (a0.size : Int)) = true := decide_eq_true c2
  have c2b1 : decide (1048576 < a0.size) = true := decide_eq_true (by omega)
  clear c2
  obtain rfl := Option.some.inj H
  go_enter Tryz.func3, Tryz.ntmps3
  go_wp2
  go_ret
  exact ⟨by first | rfl | (simp [errW_none, errW_some] <;> rfl) | (simp [*, errW_none, errW_some] <;> rfl), by exact Sq.bl HB.out⟩
 ·rw [if_neg c2] at H
  have c2b0 : decide (1048576 < (a0.size : Int)) = false := decide_eq_false c2
  have c2b1 : decide (1048576 < a0.size) = false := decide_eq_false (by omega)
  clear c2
  replace H := Option.bind_eq_some_iff.mp H
  obtain ⟨⟨t139, t140, t141, t142, t145, t146, t147⟩, A30, H⟩ := H
  try dsimp -failIfUnchanged -simprocs only at H
  have A3 := Aside0.mk A30
  clear A30
  replace H := Option.bind_eq_some_iff.mp H
  obtain ⟨⟨t149, t150, t151, t152, t155, t156, t157⟩, A40, H⟩ := H
  try dsimp -failIfUnchanged -simprocs only at H
  have A4 := Aside0.mk A40
  clear A40
  have HC5 := Aside0.mk H
  clear H
  go_enter Tryz.func3, Tryz.ntmps3
  go_upto_region 5 with (first | ((with_reducible refine gate_callee (f := 4) rfl ?_); refine Sq.goM (some 16) Tryz.func4 #[.string a0] ?_; (with_reducible refine (spec_ReadCall.calls k a0 t139 t140 t141 t142 t145 t146 t147 _ A3.out).mono ?_); rintro e w6 ⟨v143, rfl, ho0, hb⟩; refine ⟨_, rfl, ?_⟩; have n0_ := Aside0.mk (Kd.R_lower ho0 (below_size (by exact Sq.bl HB.out))); have n1_ := Aside0.mk (below_step (by exact Sq.bl HB.out) hb); clear HB; have HO144 := n0_; have HB := n1_; clear n0_ n1_; (try clear hb); (try clear hb2); (try clear hk); (try clear hi); (try clear ho0)) | ((with_reducible refine gate_dst (N := 3) rfl ?_); refine box_event ?hg (N := 3) ?hd (cs := #[.int .i64 0, .int .i64 0, .int .i64 0, .slice none 0 0, .string (⟨#[]⟩ : ByteArray), .string (⟨#[]⟩ : ByteArray)]) (t := 24) ?hr ?_; (case hd => rfl); (case hg => rfl); (case hr => first | (go_simp; done) | (go_simp; rfl)); intro gb148 hg w7 hbox hb; have n0_ := Aside0.mk (Kd.R_below (by (with_reducible repeat (first | apply Kd.R_alloc | apply Kd.R_drewN | apply Kd.R_drew)); exact HO144.out) hb); have n1_ := Aside0.mk (below_step (by exact Sq.bl HB.out) hb); have n2_ := Aside0.mk (hbox); have n3_ := Aside0.mk ((by rw [hg]; exact (below_size (by exact Sq.bl HB.out)) : w.heap.size ≤ gb148)); have n4_ := Aside0.mk ((by rw [hg]; exact (below_size (by exact Sq.bl HB.out)) : w.heap.size ≤ gb148)); clear HO144; clear HB; have HO144 := n0_; have HB := n1_; have BK148 := n2_; have GW148 := n3_; have GE148 := n4_; clear n0_ n1_ n2_ n3_ n4_; clear hb hbox hg; obtain ⟨hcz8_0, hcz8_1, hcz8_2, hcz8_3, hcz8_4, hcz8_5⟩ := Sq.c6 BK148.out; have hfz8_0 := Sq.fz BK148.out; obtain ⟨Ao9, co9, eo9⟩ := Kd.R_slice HO144.out; subst eo9) | ((with_reducible refine gate_callee (f := 5) rfl ?_); refine Sq.goM (some 21) Tryz.func5 #[.string a0] ?_; (with_reducible refine (impl_ReadCall.calls k a0 t149 t150 t151 t152 t155 t156 t157 _ ?side1 A4.out).mono ?_); (case side1 => exact GW.below HG.out (by repeat (first | (with_reducible first | exact HB.out | apply below_alloc | apply pw_below_drewN | apply below_drew1 | refine below_set ?_ GE148.out) | exact HB.out))); rintro e w10 ⟨v153, rfl, ho0, hb⟩; refine ⟨_, rfl, ?_⟩; have n0_ := Aside0.mk (Kd.R_elder' (by (with_reducible repeat (first | apply Kd.R_alloc | apply Kd.R_drewN | apply Kd.R_drew)); exact (Kd.R_mono (Kd.R_far (p := ⟨gb148, 5, none⟩) (Kd.R_far (p := ⟨gb148, 4, none⟩) (Kd.R_far (p := ⟨gb148, 3, none⟩) (Kd.R_far (p := ⟨gb148, 2, none⟩) (Kd.R_far (p := ⟨gb148, 1, none⟩) (Kd.R_far (p := ⟨gb148, 0, none⟩) (Kd.R_types HO144.out BK148.out (by decide)) (fun _ hk => hk.2) (.int .i64 t139)) (fun _ hk => hk.2) (.int .i64 t140)) (fun _ hk => hk.2) (.int .i64 t141)) (fun _ hk => hk.2) (.slice Ao9 t142.length co9)) (fun _ hk => hk.2) (.string t145)) (fun _ hk => hk.2) (.string t146)) (fun _ h_ => h_.1))) (Kd.R_base ho0) hb); have n1_ := Aside0.mk (Kd.R_lower (Kd.R_new' ho0 (Kd.R_lt (by (with_reducible repeat (first | apply Kd.R_alloc | apply Kd.R_drewN | apply Kd.R_drew)); exact (Kd.R_mono (Kd.R_far (p := ⟨gb148, 5, none⟩) (Kd.R_far (p := ⟨gb148, 4, none⟩) (Kd.R_far (p := ⟨gb148, 3, none⟩) (Kd.R_far (p := ⟨gb148, 2, none⟩) (Kd.R_far (p := ⟨gb148, 1, none⟩) (Kd.R_far (p := ⟨gb148, 0, none⟩) (Kd.R_types HO144.out BK148.out (by decide)) (fun _ hk => hk.2) (.int .i64 t139)) (fun _ hk => hk.2) (.int .i64 t140)) (fun _ hk => hk.2) (.int .i64 t141)) (fun _ hk => hk.2) (.slice Ao9 t142.length co9)) (fun _ hk => hk.2) (.string t145)) (fun _ hk => hk.2) (.string t146)) (fun _ h_ => h_.1))))) (below_size (by repeat (first | (with_reducible first | exact HB.out | apply below_alloc | apply pw_below_drewN | apply below_drew1 | refine below_set ?_ GE148.out) | exact HB.out)))); have n2_ := Aside0.mk (blk_below (g := gb148) (o := .cells #[.int .i64 t139, .int .i64 t140, .int .i64 t141, .slice Ao9 t142.length co9, .string t145, .string t146] 24 (0, 0)) (by refine Sq.bk ?_; refine blk_put (cs := #[.int .i64 t139, .int .i64 t140, .int .i64 t141, .slice Ao9 t142.length co9, .string t145, .string (⟨#[]⟩ : ByteArray)]) ?_ 5 _ rfl; refine Sq.bk ?_; refine blk_put (cs := #[.int .i64 t139, .int .i64 t140, .int .i64 t141, .slice Ao9 t142.length co9, .string (⟨#[]⟩ : ByteArray), .string (⟨#[]⟩ : ByteArray)]) ?_ 4 _ rfl; refine Sq.bk ?_; refine blk_put (cs := #[.int .i64 t139, .int .i64 t140, .int .i64 t141, .slice none 0 0, .string (⟨#[]⟩ : ByteArray), .string (⟨#[]⟩ : ByteArray)]) ?_ 3 _ rfl; refine Sq.bk ?_; refine blk_put (cs := #[.int .i64 t139, .int .i64 t140, .int .i64 0, .slice none 0 0, .string (⟨#[]⟩ : ByteArray), .string (⟨#[]⟩ : ByteArray)]) ?_ 2 _ rfl; refine Sq.bk ?_; refine blk_put (cs := #[.int .i64 t139, .int .i64 0, .int .i64 0, .slice none 0 0, .string (⟨#[]⟩ : ByteArray), .string (⟨#[]⟩ : ByteArray)]) ?_ 1 _ rfl; refine Sq.bk ?_; refine blk_put (cs := #[.int .i64 0, .int .i64 0, .int .i64 0, .slice none 0 0, .string (⟨#[]⟩ : ByteArray), .string (⟨#[]⟩ : ByteArray)]) ?_ 0 _ rfl; exact Sq.bk BK148.out) hb); have n3_ := Aside0.mk (below_step (by repeat (first | (with_reducible first | exact HB.out | apply below_alloc | apply pw_below_drewN | apply below_drew1 | refine below_set ?_ GE148.out) | exact HB.out)) hb); clear HO144; clear BK148; clear HB; have HO144 := n0_; have HO154 := n1_; have BK148 := n2_; have HB := n3_; clear n0_ n1_ n2_ n3_; (try clear hb); (try clear hb2); (try clear hk); (try clear hi); (try clear ho0)) | ((with_reducible refine gate_dst (N := 5) rfl ?_); refine box_event ?hg (N := 5) ?hd (cs := #[.int .i64 0, .int .i64 0, .int .i64 0, .slice none 0 0, .string (⟨#[]⟩ : ByteArray), .string (⟨#[]⟩ : ByteArray)]) (t := 24) ?hr ?_; (case hd => rfl); (case hg => rfl); (case hr => first | (go_simp; done) | (go_simp; rfl)); intro gb158 hg w11 hbox hb; have n0_ := Aside0.mk (Kd.R_below (by (with_reducible repeat (first | apply Kd.R_alloc | apply Kd.R_drewN | apply Kd.R_drew)); exact HO144.out) hb); have n1_ := Aside0.mk (Kd.R_below (by (with_reducible repeat (first | apply Kd.R_alloc | apply Kd.R_drewN | apply Kd.R_drew)); exact HO154.out) hb); have n2_ := Aside0.mk (blk_below (g := gb148) (o := .cells #[.int .i64 t139, .int .i64 t140, .int .i64 t141, .slice Ao9 t142.length co9, .string t145, .string t146] 24 (0, 0)) (by exact Sq.bk BK148.out) hb); have n3_ := Aside0.mk (below_step (by repeat (first | (with_reducible first | exact HB.out | apply below_alloc | apply pw_below_drewN | apply below_drew1 | refine below_set ?_ GE148.out) | exact HB.out)) hb); have n4_ := Aside0.mk (hbox); have n5_ := Aside0.mk ((by rw [hg]; exact (below_size (by repeat (first | (with_reducible first | exact HB.out | apply below_alloc | apply pw_below_drewN | apply below_drew1 | refine below_set ?_ GE148.out) | exact HB.out))) : w.heap.size ≤ gb158)); have n6_ := Aside0.mk ((by rw [hg]; exact (below_size (by repeat (first | (with_reducible first | exact HB.out | apply below_alloc | apply pw_below_drewN | apply below_drew1 | refine below_set ?_ GE148.out) | exact HB.out))) : w.heap.size ≤ gb158)); have n7_ := Aside0.mk ((by rw [hg]; exact Nat.ne_of_lt (blk_lt (g := gb148) (o := .cells #[.int .i64 t139, .int .i64 t140, .int .i64 t141, .slice Ao9 t142.length co9, .string t145, .string t146] 24 (0, 0)) (by exact Sq.bk BK148.out)) : gb148 ≠ gb158)); have n8_ := Aside0.mk ((by rw [hg]; exact Nat.ne_of_gt (blk_lt (g := gb148) (o := .cells #[.int .i64 t139, .int .i64 t140, .int .i64 t141, .slice Ao9 t142.length co9, .string t145, .string t146] 24 (0, 0)) (by exact Sq.bk BK148.out)) : gb158 ≠ gb148)); clear HO144; clear HO154; clear BK148; clear HB; have HO144 := n0_; have HO154 := n1_; have BK148 := n2_; have HB := n3_; have BK158 := n4_; have GW158 := n5_; have GE158 := n6_; have NB148_158 := n7_; have NB158_148 := n8_; clear n0_ n1_ n2_ n3_ n4_ n5_ n6_ n7_ n8_; clear hb hbox hg; have hnb12 := NB158_148.out; have hnc12 := NB148_158.out; obtain ⟨hcz13_0, hcz13_1, hcz13_2, hcz13_3, hcz13_4, hcz13_5⟩ := Sq.c6 BK158.out; have hfz13_0 := Sq.fz BK158.out; obtain ⟨Ao14, co14, eo14⟩ := Kd.R_slice HO154.out; subst eo14))
  (try simp only [Act.put, List.setIfInBounds_toArray, List.set_cons_zero, List.set_cons_succ])
  go_cut [32] (fun v32 wc => ∃ (kq : Nat) (x32_4 : Bool), v32 = .bool x32_4 ∧ Aside0 (laws_FnExactReadCall.j0 kq a0 t147 x32_4 t139 t140 t141 t142 t145 t146 t149 t150 t151 t152 t155 t156 = some r) ∧ Aside0 (kq ≤ k) ∧ Aside0 (Kd.R (Kd.int .i64) 3 wc w.heap.size (fun k_ => some k_ ≠ ((.slice Ao14 t152.length co14) : Value).ownBlock) (.slice Ao9 t142.length co9) t142) ∧ Aside0 (Kd.R (Kd.int .i64) 3 wc w.heap.size (fun k_ => some k_ ≠ ((.slice Ao9 t142.length co9) : Value).ownBlock) (.slice Ao14 t152.length co14) t152) ∧ Aside0 (wc.heap[gb148]? = some (.cells #[.int .i64 t139, .int .i64 t140, .int .i64 t141, (.slice Ao9 t142.length co9), .string t145, .string t146] 24 (0, 0))) ∧ Aside0 (wc.heap[gb158]? = some (.cells #[.int .i64 t149, .int .i64 t150, .int .i64 t151, (.slice Ao14 t152.length co14), .string t155, .string t156] 24 (0, 0))) ∧ Aside0 (Below w.heap.size w wc))
  case first =>
   have H := HC5.out
   clear HC5
   replace H := Option.bind_eq_some_iff.mp H
   obtain ⟨t159, A150, H⟩ := H
   try dsimp -failIfUnchanged -simprocs only at H
   have A15 := Aside0.mk A150
   clear A150
   by_cases c16 : t159 = true
   ·subst c16
    rw [if_pos rfl] at H
    try dsimp -failIfUnchanged -simprocs only at H
    have H' := Aside0.mk H
    clear H
    have hnb17 := NB158_148.out
    have hnc17 := NB148_158.out
    have hcz18_0 : w11.cell? ⟨gb158, 0, none⟩ = some (.int .i64 0) := (blk_cell BK158.out 0).trans rfl
    have hcz18_1 : w11.cell? ⟨gb158, 1, none⟩ = some (.int .i64 0) := (blk_cell BK158.out 1).trans rfl
    have hcz18_2 : w11.cell? ⟨gb158, 2, none⟩ = some (.int .i64 0) := (blk_cell BK158.out 2).trans rfl
    have hcz18_3 : w11.cell? ⟨gb158, 3, none⟩ = some (.slice none 0 0) := (blk_cell BK158.out 3).trans rfl
    have hcz18_4 : w11.cell? ⟨gb158, 4, none⟩ = some (.string (⟨#[]⟩ : ByteArray)) := (blk_cell BK158.out 4).trans rfl
    have hcz18_5 : w11.cell? ⟨gb158, 5, none⟩ = some (.string (⟨#[]⟩ : ByteArray)) := (blk_cell BK158.out 5).trans rfl
    have hcz19_0 : w11.cell? ⟨gb148, 0, none⟩ = some (.int .i64 t139) := (blk_cell BK148.out 0).trans rfl
    have hcz19_1 : w11.cell? ⟨gb148, 1, none⟩ = some (.int .i64 t140) := (blk_cell BK148.out 1).trans rfl
    have hcz19_2 : w11.cell? ⟨gb148, 2, none⟩ = some (.int .i64 t141) := (blk_cell BK148.out 2).trans rfl
    have hcz19_3 : w11.cell? ⟨gb148, 3, none⟩ = some (.slice Ao9 t142.length co9) := (blk_cell BK148.out 3).trans rfl
    have hcz19_4 : w11.cell? ⟨gb148, 4, none⟩ = some (.string t145) := (blk_cell BK148.out 4).trans rfl
    have hcz19_5 : w11.cell? ⟨gb148, 5, none⟩ = some (.string t146) := (blk_cell BK148.out 5).trans rfl
    have hfz18_0 := blk_frozen BK158.out 0
    have hfz18_1 := blk_frozen BK158.out 1
    have hfz18_2 := blk_frozen BK158.out 2
    have hfz18_3 := blk_frozen BK158.out 3
    have hfz18_4 := blk_frozen BK158.out 4
    have hfz18_5 := blk_frozen BK158.out 5
    have hfz19_0 := blk_frozen BK148.out 0
    have hfz19_1 := blk_frozen BK148.out 1
    have hfz19_2 := blk_frozen BK148.out 2
    have hfz19_3 := blk_frozen BK148.out 3
    have hfz19_4 := blk_frozen BK148.out 4
    have hfz19_5 := blk_frozen BK148.out 5
    go_wp2_with (first | ((with_reducible refine gate_callee (f := 6) rfl ?_); refine Sq.goM (some 26) Tryz.func6 #[.agg #[.int .i64 t149, .int .i64 t150, .int .i64 t151, .slice Ao14 t152.length co14, .string t155, .string t156], .agg #[.int .i64 t139, .int .i64 t140, .int .i64 t141, .slice Ao9 t142.length co9, .string t145, .string t146]] ?_; (with_reducible refine (laws_eqCall.calls k t149 t150 t151 _ _ t152 t155 t156 t139 t140 t141 _ _ t142 t145 t146 true _ ?side1 ?side2 ?side3 ?side4 A15.out).mono ?_); (case side1 => refine (Kd.R_reads' (e := 3) (base := w.heap.size) (ok := fun k_ => (True ∧ some k_ ≠ (.slice Ao9 t142.length co9 : Value).ownBlock)) (n := t152.length) (c := co14) ?_).2.2; exact (by (with_reducible repeat (first | apply Kd.R_alloc | apply Kd.R_drewN | apply Kd.R_drew)); exact (Kd.R_mono (Kd.R_far (p := ⟨gb158, 5, none⟩) (Kd.R_far (p := ⟨gb158, 4, none⟩) (Kd.R_far (p := ⟨gb158, 3, none⟩) (Kd.R_far (p := ⟨gb158, 2, none⟩) (Kd.R_far (p := ⟨gb158, 1, none⟩) (Kd.R_far (p := ⟨gb158, 0, none⟩) (Kd.R_types HO154.out BK158.out (by decide)) (fun _ hk => hk.2) (.int .i64 t149)) (fun _ hk => hk.2) (.int .i64 t150)) (fun _ hk => hk.2) (.int .i64 t151)) (fun _ hk => hk.2) (.slice Ao14 t152.length co14)) (fun _ hk => hk.2) (.string t155)) (fun _ hk => hk.2) (.string t156)) (fun _ h_ => h_.1)))); (case side2 => exact (Kd.R_reads' HO154.out).2.1); (case side3 => refine (Kd.R_reads' (e := 3) (base := w.heap.size) (ok := fun k_ => (True ∧ some k_ ≠ (.slice Ao14 t152.length co14 : Value).ownBlock)) (n := t142.length) (c := co9) ?_).2.2; exact (by (with_reducible repeat (first | apply Kd.R_alloc | apply Kd.R_drewN | apply Kd.R_drew)); exact (Kd.R_mono (Kd.R_far (p := ⟨gb158, 5, none⟩) (Kd.R_far (p := ⟨gb158, 4, none⟩) (Kd.R_far (p := ⟨gb158, 3, none⟩) (Kd.R_far (p := ⟨gb158, 2, none⟩) (Kd.R_far (p := ⟨gb158, 1, none⟩) (Kd.R_far (p := ⟨gb158, 0, none⟩) (Kd.R_types HO144.out BK158.out (by decide)) (fun _ hk => hk.2) (.int .i64 t149)) (fun _ hk => hk.2) (.int .i64 t150)) (fun _ hk => hk.2) (.int .i64 t151)) (fun _ hk => hk.2) (.slice Ao14 t152.length co14)) (fun _ hk => hk.2) (.string t155)) (fun _ hk => hk.2) (.string t156)) (fun _ h_ => h_.1)))); (case side4 => exact (Kd.R_reads' HO144.out).2.1); rintro e w20 ⟨rfl, hb⟩; refine ⟨_, rfl, ?_⟩; have n0_ := Aside0.mk (Kd.R_below (by (with_reducible repeat (first | apply Kd.R_alloc | apply Kd.R_drewN | apply Kd.R_drew)); exact (Kd.R_mono (Kd.R_far (p := ⟨gb158, 5, none⟩) (Kd.R_far (p := ⟨gb158, 4, none⟩) (Kd.R_far (p := ⟨gb158, 3, none⟩) (Kd.R_far (p := ⟨gb158, 2, none⟩) (Kd.R_far (p := ⟨gb158, 1, none⟩) (Kd.R_far (p := ⟨gb158, 0, none⟩) (Kd.R_types HO144.out BK158.out (by decide)) (fun _ hk => hk.2) (.int .i64 t149)) (fun _ hk => hk.2) (.int .i64 t150)) (fun _ hk => hk.2) (.int .i64 t151)) (fun _ hk => hk.2) (.slice Ao14 t152.length co14)) (fun _ hk => hk.2) (.string t155)) (fun _ hk => hk.2) (.string t156)) (fun _ h_ => h_.1))) hb); have n1_ := Aside0.mk (Kd.R_below (by (with_reducible repeat (first | apply Kd.R_alloc | apply Kd.R_drewN | apply Kd.R_drew)); exact (Kd.R_mono (Kd.R_far (p := ⟨gb158, 5, none⟩) (Kd.R_far (p := ⟨gb158, 4, none⟩) (Kd.R_far (p := ⟨gb158, 3, none⟩) (Kd.R_far (p := ⟨gb158, 2, none⟩) (Kd.R_far (p := ⟨gb158, 1, none⟩) (Kd.R_far (p := ⟨gb158, 0, none⟩) (Kd.R_types HO154.out BK158.out (by decide)) (fun _ hk => hk.2) (.int .i64 t149)) (fun _ hk => hk.2) (.int .i64 t150)) (fun _ hk => hk.2) (.int .i64 t151)) (fun _ hk => hk.2) (.slice Ao14 t152.length co14)) (fun _ hk => hk.2) (.string t155)) (fun _ hk => hk.2) (.string t156)) (fun _ h_ => h_.1))) hb); have n2_ := Aside0.mk (blk_below (g := gb148) (o := .cells #[.int .i64 t139, .int .i64 t140, .int .i64 t141, .slice Ao9 t142.length co9, .string t145, .string t146] 24 (0, 0)) (by refine Sq.bk ?_; refine blk_far ?_ NB148_158.out _; refine Sq.bk ?_; refine blk_far ?_ NB148_158.out _; refine Sq.bk ?_; refine blk_far ?_ NB148_158.out _; refine Sq.bk ?_; refine blk_far ?_ NB148_158.out _; refine Sq.bk ?_; refine blk_far ?_ NB148_158.out _; refine Sq.bk ?_; refine blk_far ?_ NB148_158.out _; exact Sq.bk BK148.out) hb); have n3_ := Aside0.mk (blk_below (g := gb158) (o := .cells #[.int .i64 t149, .int .i64 t150, .int .i64 t151, .slice Ao14 t152.length co14, .string t155, .string t156] 24 (0, 0)) (by refine Sq.bk ?_; refine blk_put (cs := #[.int .i64 t149, .int .i64 t150, .int .i64 t151, .slice Ao14 t152.length co14, .string t155, .string (⟨#[]⟩ : ByteArray)]) ?_ 5 _ rfl; refine Sq.bk ?_; refine blk_put (cs := #[.int .i64 t149, .int .i64 t150, .int .i64 t151, .slice Ao14 t152.length co14, .string (⟨#[]⟩ : ByteArray), .string (⟨#[]⟩ : ByteArray)]) ?_ 4 _ rfl; refine Sq.bk ?_; refine blk_put (cs := #[.int .i64 t149, .int .i64 t150, .int .i64 t151, .slice none 0 0, .string (⟨#[]⟩ : ByteArray), .string (⟨#[]⟩ : ByteArray)]) ?_ 3 _ rfl; refine Sq.bk ?_; refine blk_put (cs := #[.int .i64 t149, .int .i64 t150, .int .i64 0, .slice none 0 0, .string (⟨#[]⟩ : ByteArray), .string (⟨#[]⟩ : ByteArray)]) ?_ 2 _ rfl; refine Sq.bk ?_; refine blk_put (cs := #[.int .i64 t149, .int .i64 0, .int .i64 0, .slice none 0 0, .string (⟨#[]⟩ : ByteArray), .string (⟨#[]⟩ : ByteArray)]) ?_ 1 _ rfl; refine Sq.bk ?_; refine blk_put (cs := #[.int .i64 0, .int .i64 0, .int .i64 0, .slice none 0 0, .string (⟨#[]⟩ : ByteArray), .string (⟨#[]⟩ : ByteArray)]) ?_ 0 _ rfl; exact Sq.bk BK158.out) hb); have n4_ := Aside0.mk (below_step (by repeat (first | (with_reducible first | exact HB.out | apply below_alloc | apply pw_below_drewN | apply below_drew1 | refine below_set ?_ GE148.out | refine below_set ?_ GE158.out) | exact HB.out)) hb); clear HO144; clear HO154; clear BK148; clear BK158; clear HB; have HO144 := n0_; have HO154 := n1_; have BK148 := n2_; have BK158 := n3_; have HB := n4_; clear n0_ n1_ n2_ n3_ n4_; (try clear hb); (try clear hb2); (try clear hk); (try clear hi)))
    go_meet
    case rel => exact ⟨_, ((t157 != t147)), (by first | rfl | (simp; done) | (simp [*]; done) | (generalize ByteArray.toList _ = l_; cases l_ <;> rfl)), H', ⟨by first | omega | exact Nat.le_refl _⟩, ⟨by (with_reducible repeat (first | apply Kd.R_alloc | apply Kd.R_drewN | apply Kd.R_drew)); exact Kd.R_mono HO144.out (fun _ hk => hk.2)⟩, ⟨by (with_reducible repeat (first | apply Kd.R_alloc | apply Kd.R_drewN | apply Kd.R_drew)); exact Kd.R_mono HO154.out (fun _ hk => hk.2)⟩, ⟨by exact Sq.bk BK148.out⟩, ⟨by exact Sq.bk BK158.out⟩, ⟨by repeat (first | (with_reducible first | exact HB.out | apply below_alloc | apply pw_below_drewN | apply below_drew1 | refine below_set ?_ GE148.out | refine below_set ?_ GE158.out) | exact HB.out)⟩⟩
   ·replace c16 := Bool.eq_false_iff.mpr c16
    subst c16
    rw [if_neg (show ¬ (false = true) by decide)] at H
    try dsimp -failIfUnchanged -simprocs only at H
    have H' := Aside0.mk H
    clear H
    have hnb21 := NB158_148.out
    have hnc21 := NB148_158.out
    have hcz22_0 : w11.cell? ⟨gb158, 0, none⟩ = some (.int .i64 0) := (blk_cell BK158.out 0).trans rfl
    have hcz22_1 : w11.cell? ⟨gb158, 1, none⟩ = some (.int .i64 0) := (blk_cell BK158.out 1).trans rfl
    have hcz22_2 : w11.cell? ⟨gb158, 2, none⟩ = some (.int .i64 0) := (blk_cell BK158.out 2).trans rfl
    have hcz22_3 : w11.cell? ⟨gb158, 3, none⟩ = some (.slice none 0 0) := (blk_cell BK158.out 3).trans rfl
    have hcz22_4 : w11.cell? ⟨gb158, 4, none⟩ = some (.string (⟨#[]⟩ : ByteArray)) := (blk_cell BK158.out 4).trans rfl
    have hcz22_5 : w11.cell? ⟨gb158, 5, none⟩ = some (.string (⟨#[]⟩ : ByteArray)) := (blk_cell BK158.out 5).trans rfl
    have hcz23_0 : w11.cell? ⟨gb148, 0, none⟩ = some (.int .i64 t139) := (blk_cell BK148.out 0).trans rfl
    have hcz23_1 : w11.cell? ⟨gb148, 1, none⟩ = some (.int .i64 t140) := (blk_cell BK148.out 1).trans rfl
    have hcz23_2 : w11.cell? ⟨gb148, 2, none⟩ = some (.int .i64 t141) := (blk_cell BK148.out 2).trans rfl
    have hcz23_3 : w11.cell? ⟨gb148, 3, none⟩ = some (.slice Ao9 t142.length co9) := (blk_cell BK148.out 3).trans rfl
    have hcz23_4 : w11.cell? ⟨gb148, 4, none⟩ = some (.string t145) := (blk_cell BK148.out 4).trans rfl
    have hcz23_5 : w11.cell? ⟨gb148, 5, none⟩ = some (.string t146) := (blk_cell BK148.out 5).trans rfl
    have hfz22_0 := blk_frozen BK158.out 0
    have hfz22_1 := blk_frozen BK158.out 1
    have hfz22_2 := blk_frozen BK158.out 2
    have hfz22_3 := blk_frozen BK158.out 3
    have hfz22_4 := blk_frozen BK158.out 4
    have hfz22_5 := blk_frozen BK158.out 5
    have hfz23_0 := blk_frozen BK148.out 0
    have hfz23_1 := blk_frozen BK148.out 1
    have hfz23_2 := blk_frozen BK148.out 2
    have hfz23_3 := blk_frozen BK148.out 3
    have hfz23_4 := blk_frozen BK148.out 4
    have hfz23_5 := blk_frozen BK148.out 5
    go_wp2_with (first | ((with_reducible refine gate_callee (f := 6) rfl ?_); refine Sq.goM (some 26) Tryz.func6 #[.agg #[.int .i64 t149, .int .i64 t150, .int .i64 t151, .slice Ao14 t152.length co14, .string t155, .string t156], .agg #[.int .i64 t139, .int .i64 t140, .int .i64 t141, .slice Ao9 t142.length co9, .string t145, .string t146]] ?_; (with_reducible refine (laws_eqCall.calls k t149 t150 t151 _ _ t152 t155 t156 t139 t140 t141 _ _ t142 t145 t146 false _ ?side1 ?side2 ?side3 ?side4 A15.out).mono ?_); (case side1 => refine (Kd.R_reads' (e := 3) (base := w.heap.size) (ok := fun k_ => (True ∧ some k_ ≠ (.slice Ao9 t142.length co9 : Value).ownBlock)) (n := t152.length) (c := co14) ?_).2.2; exact (by (with_reducible repeat (first | apply Kd.R_alloc | apply Kd.R_drewN | apply Kd.R_drew)); exact (Kd.R_mono (Kd.R_far (p := ⟨gb158, 5, none⟩) (Kd.R_far (p := ⟨gb158, 4, none⟩) (Kd.R_far (p := ⟨gb158, 3, none⟩) (Kd.R_far (p := ⟨gb158, 2, none⟩) (Kd.R_far (p := ⟨gb158, 1, none⟩) (Kd.R_far (p := ⟨gb158, 0, none⟩) (Kd.R_types HO154.out BK158.out (by decide)) (fun _ hk => hk.2) (.int .i64 t149)) (fun _ hk => hk.2) (.int .i64 t150)) (fun _ hk => hk.2) (.int .i64 t151)) (fun _ hk => hk.2) (.slice Ao14 t152.length co14)) (fun _ hk => hk.2) (.string t155)) (fun _ hk => hk.2) (.string t156)) (fun _ h_ => h_.1)))); (case side2 => exact (Kd.R_reads' HO154.out).2.1); (case side3 => refine (Kd.R_reads' (e := 3) (base := w.heap.size) (ok := fun k_ => (True ∧ some k_ ≠ (.slice Ao14 t152.length co14 : Value).ownBlock)) (n := t142.length) (c := co9) ?_).2.2; exact (by (with_reducible repeat (first | apply Kd.R_alloc | apply Kd.R_drewN | apply Kd.R_drew)); exact (Kd.R_mono (Kd.R_far (p := ⟨gb158, 5, none⟩) (Kd.R_far (p := ⟨gb158, 4, none⟩) (Kd.R_far (p := ⟨gb158, 3, none⟩) (Kd.R_far (p := ⟨gb158, 2, none⟩) (Kd.R_far (p := ⟨gb158, 1, none⟩) (Kd.R_far (p := ⟨gb158, 0, none⟩) (Kd.R_types HO144.out BK158.out (by decide)) (fun _ hk => hk.2) (.int .i64 t149)) (fun _ hk => hk.2) (.int .i64 t150)) (fun _ hk => hk.2) (.int .i64 t151)) (fun _ hk => hk.2) (.slice Ao14 t152.length co14)) (fun _ hk => hk.2) (.string t155)) (fun _ hk => hk.2) (.string t156)) (fun _ h_ => h_.1)))); (case side4 => exact (Kd.R_reads' HO144.out).2.1); rintro e w24 ⟨rfl, hb⟩; refine ⟨_, rfl, ?_⟩; have n0_ := Aside0.mk (Kd.R_below (by (with_reducible repeat (first | apply Kd.R_alloc | apply Kd.R_drewN | apply Kd.R_drew)); exact (Kd.R_mono (Kd.R_far (p := ⟨gb158, 5, none⟩) (Kd.R_far (p := ⟨gb158, 4, none⟩) (Kd.R_far (p := ⟨gb158, 3, none⟩) (Kd.R_far (p := ⟨gb158, 2, none⟩) (Kd.R_far (p := ⟨gb158, 1, none⟩) (Kd.R_far (p := ⟨gb158, 0, none⟩) (Kd.R_types HO144.out BK158.out (by decide)) (fun _ hk => hk.2) (.int .i64 t149)) (fun _ hk => hk.2) (.int .i64 t150)) (fun _ hk => hk.2) (.int .i64 t151)) (fun _ hk => hk.2) (.slice Ao14 t152.length co14)) (fun _ hk => hk.2) (.string t155)) (fun _ hk => hk.2) (.string t156)) (fun _ h_ => h_.1))) hb); have n1_ := Aside0.mk (Kd.R_below (by (with_reducible repeat (first | apply Kd.R_alloc | apply Kd.R_drewN | apply Kd.R_drew)); exact (Kd.R_mono (Kd.R_far (p := ⟨gb158, 5, none⟩) (Kd.R_far (p := ⟨gb158, 4, none⟩) (Kd.R_far (p := ⟨gb158, 3, none⟩) (Kd.R_far (p := ⟨gb158, 2, none⟩) (Kd.R_far (p := ⟨gb158, 1, none⟩) (Kd.R_far (p := ⟨gb158, 0, none⟩) (Kd.R_types HO154.out BK158.out (by decide)) (fun _ hk => hk.2) (.int .i64 t149)) (fun _ hk => hk.2) (.int .i64 t150)) (fun _ hk => hk.2) (.int .i64 t151)) (fun _ hk => hk.2) (.slice Ao14 t152.length co14)) (fun _ hk => hk.2) (.string t155)) (fun _ hk => hk.2) (.string t156)) (fun _ h_ => h_.1))) hb); have n2_ := Aside0.mk (blk_below (g := gb148) (o := .cells #[.int .i64 t139, .int .i64 t140, .int .i64 t141, .slice Ao9 t142.length co9, .string t145, .string t146] 24 (0, 0)) (by refine Sq.bk ?_; refine blk_far ?_ NB148_158.out _; refine Sq.bk ?_; refine blk_far ?_ NB148_158.out _; refine Sq.bk ?_; refine blk_far ?_ NB148_158.out _; refine Sq.bk ?_; refine blk_far ?_ NB148_158.out _; refine Sq.bk ?_; refine blk_far ?_ NB148_158.out _; refine Sq.bk ?_; refine blk_far ?_ NB148_158.out _; exact Sq.bk BK148.out) hb); have n3_ := Aside0.mk (blk_below (g := gb158) (o := .cells #[.int .i64 t149, .int .i64 t150, .int .i64 t151, .slice Ao14 t152.length co14, .string t155, .string t156] 24 (0, 0)) (by refine Sq.bk ?_; refine blk_put (cs := #[.int .i64 t149, .int .i64 t150, .int .i64 t151, .slice Ao14 t152.length co14, .string t155, .string (⟨#[]⟩ : ByteArray)]) ?_ 5 _ rfl; refine Sq.bk ?_; refine blk_put (cs := #[.int .i64 t149, .int .i64 t150, .int .i64 t151, .slice Ao14 t152.length co14, .string (⟨#[]⟩ : ByteArray), .string (⟨#[]⟩ : ByteArray)]) ?_ 4 _ rfl; refine Sq.bk ?_; refine blk_put (cs := #[.int .i64 t149, .int .i64 t150, .int .i64 t151, .slice none 0 0, .string (⟨#[]⟩ : ByteArray), .string (⟨#[]⟩ : ByteArray)]) ?_ 3 _ rfl; refine Sq.bk ?_; refine blk_put (cs := #[.int .i64 t149, .int .i64 t150, .int .i64 0, .slice none 0 0, .string (⟨#[]⟩ : ByteArray), .string (⟨#[]⟩ : ByteArray)]) ?_ 2 _ rfl; refine Sq.bk ?_; refine blk_put (cs := #[.int .i64 t149, .int .i64 0, .int .i64 0, .slice none 0 0, .string (⟨#[]⟩ : ByteArray), .string (⟨#[]⟩ : ByteArray)]) ?_ 1 _ rfl; refine Sq.bk ?_; refine blk_put (cs := #[.int .i64 0, .int .i64 0, .int .i64 0, .slice none 0 0, .string (⟨#[]⟩ : ByteArray), .string (⟨#[]⟩ : ByteArray)]) ?_ 0 _ rfl; exact Sq.bk BK158.out) hb); have n4_ := Aside0.mk (below_step (by repeat (first | (with_reducible first | exact HB.out | apply below_alloc | apply pw_below_drewN | apply below_drew1 | refine below_set ?_ GE148.out | refine below_set ?_ GE158.out) | exact HB.out)) hb); clear HO144; clear HO154; clear BK148; clear BK158; clear HB; have HO144 := n0_; have HO154 := n1_; have BK148 := n2_; have BK158 := n3_; have HB := n4_; clear n0_ n1_ n2_ n3_ n4_; (try clear hb); (try clear hb2); (try clear hk); (try clear hi)))
    go_meet
    case rel => exact ⟨_, (true), (by first | rfl | (simp; done) | (simp [*]; done) | (generalize ByteArray.toList _ = l_; cases l_ <;> rfl)), H', ⟨by first | omega | exact Nat.le_refl _⟩, ⟨by (with_reducible repeat (first | apply Kd.R_alloc | apply Kd.R_drewN | apply Kd.R_drew)); exact Kd.R_mono HO144.out (fun _ hk => hk.2)⟩, ⟨by (with_reducible repeat (first | apply Kd.R_alloc | apply Kd.R_drewN | apply Kd.R_drew)); exact Kd.R_mono HO154.out (fun _ hk => hk.2)⟩, ⟨by exact Sq.bk BK148.out⟩, ⟨by exact Sq.bk BK158.out⟩, ⟨by repeat (first | (with_reducible first | exact HB.out | apply below_alloc | apply pw_below_drewN | apply below_drew1 | refine below_set ?_ GE148.out | refine below_set ?_ GE158.out) | exact HB.out)⟩⟩
  case rest =>
   clear HC5
   try clear c1
   try clear c2
   try clear c2b0
   try clear c2b1
   try clear p2
   try clear c3
   try clear c4
   try clear c5
   try clear c6
   try clear c12
   try clear c16
   try clear c17
   try clear c21
   try clear hcz13_0
   try clear hcz13_1
   try clear hcz13_2
   try clear hcz13_3
   try clear hcz13_4
   try clear hcz13_5
   try clear hcz18_0
   try clear hcz18_1
   try clear hcz18_2
   try clear hcz18_3
   try clear hcz18_4
   try clear hcz18_5
   try clear hcz19_0
   try clear hcz19_1
   try clear hcz19_2
   try clear hcz19_3
   try clear hcz19_4
   try clear hcz19_5
   try clear hcz22_0
   try clear hcz22_1
   try clear hcz22_2
   try clear hcz22_3
   try clear hcz22_4
   try clear hcz22_5
   try clear hcz23_0
   try clear hcz23_1
   try clear hcz23_2
   try clear hcz23_3
   try clear hcz23_4
   try clear hcz23_5
   try clear hcz8_0
   try clear hcz8_1
   try clear hcz8_2
   try clear hcz8_3
   try clear hcz8_4
   try clear hcz8_5
   try clear hfz13_0
   try clear hfz18_0
   try clear hfz18_1
   try clear hfz18_2
   try clear hfz18_3
   try clear hfz18_4
   try clear hfz18_5
   try clear hfz19_0
   try clear hfz19_1
   try clear hfz19_2
   try clear hfz19_3
   try clear hfz19_4
   try clear hfz19_5
   try clear hfz22_0
   try clear hfz22_1
   try clear hfz22_2
   try clear hfz22_3
   try clear hfz22_4
   try clear hfz22_5
   try clear hfz23_0
   try clear hfz23_1
   try clear hfz23_2
   try clear hfz23_3
   try clear hfz23_4
   try clear hfz23_5
   try clear hfz8_0
   obtain ⟨kq, x32_4, rfl, HA, HJ4, HO_149003, HO_159003, BK148, BK158, HB⟩ := hcut
   cases kq with
   | zero => exact absurd HA.out (by simp [laws_FnExactReadCall.j0])
   | succ kj4 =>
    have H := HA.out
    clear HA
    simp only [laws_FnExactReadCall.j0] at H
    by_cases c25 : x32_4 = true
    ·subst c25
     rw [if_pos rfl] at H
     try dsimp -failIfUnchanged -simprocs only at H
     obtain rfl := Option.some.inj H
     go_wp2
     go_ret
     exact ⟨by first | rfl | (simp [errW_none, errW_some] <;> rfl) | (simp [*, errW_none, errW_some] <;> rfl), by repeat (first | (with_reducible first | exact HB.out | apply below_alloc | apply pw_below_drewN | apply below_drew1 | refine below_set ?_ GE148.out | refine below_set ?_ GE158.out) | exact HB.out)⟩
    ·replace c25 := Bool.eq_false_iff.mpr c25
     subst c25
     rw [if_neg (show ¬ (false = true) by decide)] at H
     try dsimp -failIfUnchanged -simprocs only at H
     replace H := Option.bind_eq_some_iff.mp H
     obtain ⟨⟨t160, t161⟩, A260, H⟩ := H
     try dsimp -failIfUnchanged -simprocs only at H
     have A26 := Aside0.mk A260
     clear A260
     replace H := Option.bind_eq_some_iff.mp H
     obtain ⟨t162, A270, H⟩ := H
     try dsimp -failIfUnchanged -simprocs only at H
     have A27 := Aside0.mk A270
     clear A270
     by_cases c28 : t162 < 0
     ·rw [if_pos c28] at H
      have c28b0 : decide (t162 < 0) = true := decide_eq_true c28
      clear c28
      obtain rfl := Option.some.inj H
      have hnb29 := NB158_148.out
      have hnc29 := NB148_158.out
      obtain ⟨hcz30_0, hcz30_1, hcz30_2, hcz30_3, hcz30_4, hcz30_5⟩ := Sq.c6 BK158.out
      have hfz30_0 := Sq.fz BK158.out
      go_wp2_with (first | ((with_reducible refine gate_callee (f := 7) rfl ?_); refine Sq.goM (some 35) Tryz.func7 #[.agg #[.int .i64 t149, .int .i64 t150, .int .i64 t151, .slice Ao14 t152.length co14, .string t155, .string t156], .int .i64 1] ?_; (with_reducible refine (laws_markCall.calls kj4 t149 t150 t151 (fun k_ => some k_ = (.slice Ao14 t152.length co14 : Value).ownBlock) (.slice Ao14 t152.length co14) t152 t155 t156 1 t160 t161 w _ ?side1 ?side2 A26.out).mono ?_); (case side1 => repeat (first | (with_reducible first | exact HB.out | apply below_alloc | apply pw_below_drewN | apply below_drew1 | refine below_set ?_ GE148.out | refine below_set ?_ GE158.out) | exact HB.out)); (case side2 => exact Kd.R_tight rfl HO_159003.out); rintro e w31 ⟨rfl, hy0, hb, hkp⟩; refine ⟨_, rfl, ?_⟩; have n0_ := Aside0.mk (Kd.R_mono (ok' := fun k_ => some k_ ≠ (.slice Ao14 t152.length co14 : Value).ownBlock) (Kd.R_keptB (HO_149003.out) hkp (fun k_ hk_ hs_ => (hk_) hs_)) (fun k_ hk_ => hk_.1)); have n1_ := Aside0.mk (Kd.R_reok rfl hy0 (fun k_ e_ => HO_159003.out.1 k_ e_)); have n2_ := Aside0.mk (blk_kept (by exact Sq.bk BK148.out) hkp (fun hs_ => (fun e_ => (Kd.R_ne HO_159003.out BK148.out (by decide)) e_) hs_)); have n3_ := Aside0.mk (blk_kept (by exact Sq.bk BK158.out) hkp (fun hs_ => (fun e_ => (Kd.R_ne HO_159003.out BK158.out (by decide)) e_) hs_)); have n4_ := Aside0.mk (hb); clear HO_149003; clear HO_159003; clear BK148; clear BK158; clear HB; have HO_149003 := n0_; have HO_159003 := n1_; have BK148 := n2_; have BK158 := n3_; have HB := n4_; clear n0_ n1_ n2_ n3_ n4_; (try clear hb); (try clear hkp); (try clear hy0); obtain ⟨hcz32_0, hcz32_1, hcz32_2, hcz32_3, hcz32_4, hcz32_5⟩ := Sq.c6 BK158.out; have hfz32_0 := Sq.fz BK158.out) | ((with_reducible refine gate_callee (f := 8) rfl ?_); refine goesL_ (some 38) rfl rfl Tryz.func8 (by kernel_rfl) rfl #[.agg #[.int .i64 t149, .int .i64 t150, .int .i64 t151, .slice Ao14 t161.length co14, .string t155, .string t156], .int .i64 1] rfl (by (try simp only [List.map_toArray, List.map_cons, List.map_nil]); first | done | (rw [show t161.length = t152.length from (Kd.R_reads' HO_159003.out).1.symm] <;> rfl) | rfl | (simp only [List.length_drop, List.length_take]; rfl)) ?_; (with_reducible refine (laws_heldCall.calls kj4 t149 t150 t151 _ _ t161 t155 t156 1 t162 _ ?side1 ?side2 A27.out).mono ?_); (case side1 => repeat (first | exact (Kd.R_reads' HO_159003.out).2.2 | (with_reducible refine Kd.C_alloc ?_ _) | (with_reducible refine Kd.C_drewN ?_ _) | (with_reducible refine Kd.C_drew ?_))); (case side2 => rw [show t161.length = t152.length from (Kd.R_reads' HO_159003.out).1.symm]; exact (Kd.R_reads' HO_159003.out).2.1); rintro e w33 ⟨rfl, hb⟩; refine ⟨_, rfl, ?_⟩; have n0_ := Aside0.mk (Kd.R_below (by (with_reducible repeat (first | apply Kd.R_alloc | apply Kd.R_drewN | apply Kd.R_drew)); exact HO_149003.out) hb); have n1_ := Aside0.mk (Kd.R_below (by (with_reducible repeat (first | apply Kd.R_alloc | apply Kd.R_drewN | apply Kd.R_drew)); exact HO_159003.out) hb); have n2_ := Aside0.mk (blk_below (g := gb148) (o := .cells #[.int .i64 t139, .int .i64 t140, .int .i64 t141, .slice Ao9 t142.length co9, .string t145, .string t146] 24 (0, 0)) (by exact Sq.bk BK148.out) hb); have n3_ := Aside0.mk (blk_below (g := gb158) (o := .cells #[.int .i64 t149, .int .i64 t150, .int .i64 t151, .slice Ao14 t152.length co14, .string t155, .string t156] 24 (0, 0)) (by exact Sq.bk BK158.out) hb); have n4_ := Aside0.mk (below_step (by repeat (first | (with_reducible first | exact HB.out | apply below_alloc | apply pw_below_drewN | apply below_drew1 | refine below_set ?_ GE148.out | refine below_set ?_ GE158.out) | exact HB.out)) hb); clear HO_149003; clear HO_159003; clear BK148; clear BK158; clear HB; have HO_149003 := n0_; have HO_159003 := n1_; have BK148 := n2_; have BK158 := n3_; have HB := n4_; clear n0_ n1_ n2_ n3_ n4_; (try clear hb); (try clear hb2); (try clear hk); (try clear hi)))
      go_ret
      exact ⟨by first | rfl | (simp [errW_none, errW_some] <;> rfl) | (simp [*, errW_none, errW_some] <;> rfl), by repeat (first | (with_reducible first | exact HB.out | apply below_alloc | apply pw_below_drewN | apply below_drew1 | refine below_set ?_ GE148.out | refine below_set ?_ GE158.out) | exact HB.out)⟩
     ·rw [if_neg c28] at H
      have c28b0 : decide (t162 < 0) = false := decide_eq_false c28
      clear c28
      by_cases c34 : t162 = t160
      ·rw [if_pos c34] at H
       have c34b0 : (t162 == t160) = true := beq_iff_eq.mpr c34
       have c34b1 : (t162 != t160) = false := bne_eq_false_iff_eq.mpr c34
       clear c34
       replace H := Option.bind_eq_some_iff.mp H
       obtain ⟨⟨t163, t164, t165, t166, t169, t170, t171⟩, A350, H⟩ := H
       try dsimp -failIfUnchanged -simprocs only at H
       have A35 := Aside0.mk A350
       clear A350
       have HC36 := Aside0.mk H
       clear H
       have hnb37 := NB158_148.out
       have hnc37 := NB148_158.out
       obtain ⟨hcz38_0, hcz38_1, hcz38_2, hcz38_3, hcz38_4, hcz38_5⟩ := Sq.c6 BK158.out
       have hfz38_0 := Sq.fz BK158.out
       go_upto_region 16 with (first | ((with_reducible refine gate_callee (f := 7) rfl ?_); refine Sq.goM (some 35) Tryz.func7 #[.agg #[.int .i64 t149, .int .i64 t150, .int .i64 t151, .slice Ao14 t152.length co14, .string t155, .string t156], .int .i64 1] ?_; (with_reducible refine (laws_markCall.calls kj4 t149 t150 t151 (fun k_ => some k_ = (.slice Ao14 t152.length co14 : Value).ownBlock) (.slice Ao14 t152.length co14) t152 t155 t156 1 t160 t161 w _ ?side1 ?side2 A26.out).mono ?_); (case side1 => repeat (first | (with_reducible first | exact HB.out | apply below_alloc | apply pw_below_drewN | apply below_drew1 | refine below_set ?_ GE148.out | refine below_set ?_ GE158.out) | exact HB.out)); (case side2 => exact Kd.R_tight rfl HO_159003.out); rintro e w39 ⟨rfl, hy0, hb, hkp⟩; refine ⟨_, rfl, ?_⟩; have n0_ := Aside0.mk (Kd.R_mono (ok' := fun k_ => some k_ ≠ (.slice Ao14 t152.length co14 : Value).ownBlock) (Kd.R_keptB (HO_149003.out) hkp (fun k_ hk_ hs_ => (hk_) hs_)) (fun k_ hk_ => hk_.1)); have n1_ := Aside0.mk (Kd.R_reok rfl hy0 (fun k_ e_ => HO_159003.out.1 k_ e_)); have n2_ := Aside0.mk (blk_kept (by exact Sq.bk BK148.out) hkp (fun hs_ => (fun e_ => (Kd.R_ne HO_159003.out BK148.out (by decide)) e_) hs_)); have n3_ := Aside0.mk (blk_kept (by exact Sq.bk BK158.out) hkp (fun hs_ => (fun e_ => (Kd.R_ne HO_159003.out BK158.out (by decide)) e_) hs_)); have n4_ := Aside0.mk (hb); clear HO_149003; clear HO_159003; clear BK148; clear BK158; clear HB; have HO_149003 := n0_; have HO_159003 := n1_; have BK148 := n2_; have BK158 := n3_; have HB := n4_; clear n0_ n1_ n2_ n3_ n4_; (try clear hb); (try clear hkp); (try clear hy0); obtain ⟨hcz40_0, hcz40_1, hcz40_2, hcz40_3, hcz40_4, hcz40_5⟩ := Sq.c6 BK158.out; have hfz40_0 := Sq.fz BK158.out) | ((with_reducible refine gate_callee (f := 8) rfl ?_); refine goesL_ (some 38) rfl rfl Tryz.func8 (by kernel_rfl) rfl #[.agg #[.int .i64 t149, .int .i64 t150, .int .i64 t151, .slice Ao14 t161.length co14, .string t155, .string t156], .int .i64 1] rfl (by (try simp only [List.map_toArray, List.map_cons, List.map_nil]); first | done | (rw [show t161.length = t152.length from (Kd.R_reads' HO_159003.out).1.symm] <;> rfl) | rfl | (simp only [List.length_drop, List.length_take]; rfl)) ?_; (with_reducible refine (laws_heldCall.calls kj4 t149 t150 t151 _ _ t161 t155 t156 1 t162 _ ?side1 ?side2 A27.out).mono ?_); (case side1 => repeat (first | exact (Kd.R_reads' HO_159003.out).2.2 | (with_reducible refine Kd.C_alloc ?_ _) | (with_reducible refine Kd.C_drewN ?_ _) | (with_reducible refine Kd.C_drew ?_))); (case side2 => rw [show t161.length = t152.length from (Kd.R_reads' HO_159003.out).1.symm]; exact (Kd.R_reads' HO_159003.out).2.1); rintro e w41 ⟨rfl, hb⟩; refine ⟨_, rfl, ?_⟩; have n0_ := Aside0.mk (Kd.R_below (by (with_reducible repeat (first | apply Kd.R_alloc | apply Kd.R_drewN | apply Kd.R_drew)); exact HO_149003.out) hb); have n1_ := Aside0.mk (Kd.R_below (by (with_reducible repeat (first | apply Kd.R_alloc | apply Kd.R_drewN | apply Kd.R_drew)); exact HO_159003.out) hb); have n2_ := Aside0.mk (blk_below (g := gb148) (o := .cells #[.int .i64 t139, .int .i64 t140, .int .i64 t141, .slice Ao9 t142.length co9, .string t145, .string t146] 24 (0, 0)) (by exact Sq.bk BK148.out) hb); have n3_ := Aside0.mk (blk_below (g := gb158) (o := .cells #[.int .i64 t149, .int .i64 t150, .int .i64 t151, .slice Ao14 t152.length co14, .string t155, .string t156] 24 (0, 0)) (by exact Sq.bk BK158.out) hb); have n4_ := Aside0.mk (below_step (by repeat (first | (with_reducible first | exact HB.out | apply below_alloc | apply pw_below_drewN | apply below_drew1 | refine below_set ?_ GE148.out | refine below_set ?_ GE158.out) | exact HB.out)) hb); clear HO_149003; clear HO_159003; clear BK148; clear BK158; clear HB; have HO_149003 := n0_; have HO_159003 := n1_; have BK148 := n2_; have BK158 := n3_; have HB := n4_; clear n0_ n1_ n2_ n3_ n4_; (try clear hb); (try clear hb2); (try clear hk); (try clear hi)) | ((with_reducible refine gate_callee (f := 5) rfl ?_); refine Sq.goM (some 46) Tryz.func5 #[.string a0] ?_; (with_reducible refine (impl_ReadCall.calls kj4 a0 t163 t164 t165 t166 t169 t170 t171 _ ?side1 A35.out).mono ?_); (case side1 => exact GW.below HG.out (by repeat (first | (with_reducible first | exact HB.out | apply below_alloc | apply pw_below_drewN | apply below_drew1 | refine below_set ?_ GE148.out | refine below_set ?_ GE158.out) | exact HB.out))); rintro e w42 ⟨v167, rfl, ho0, hb⟩; refine ⟨_, rfl, ?_⟩; have n0_ := Aside0.mk (Kd.R_elder' (by (with_reducible repeat (first | apply Kd.R_alloc | apply Kd.R_drewN | apply Kd.R_drew)); exact HO_149003.out) (Kd.R_base ho0) hb); have n1_ := Aside0.mk (Kd.R_elder' (by (with_reducible repeat (first | apply Kd.R_alloc | apply Kd.R_drewN | apply Kd.R_drew)); exact HO_159003.out) (Kd.R_base ho0) hb); have n2_ := Aside0.mk (Kd.R_lower (Kd.R_new' (Kd.R_new' ho0 (Kd.R_lt (by (with_reducible repeat (first | apply Kd.R_alloc | apply Kd.R_drewN | apply Kd.R_drew)); exact HO_149003.out))) (Kd.R_lt (by (with_reducible repeat (first | apply Kd.R_alloc | apply Kd.R_drewN | apply Kd.R_drew)); exact HO_159003.out))) (below_size (by repeat (first | (with_reducible first | exact HB.out | apply below_alloc | apply pw_below_drewN | apply below_drew1 | refine below_set ?_ GE148.out | refine below_set ?_ GE158.out) | exact HB.out)))); have n3_ := Aside0.mk (blk_below (g := gb148) (o := .cells #[.int .i64 t139, .int .i64 t140, .int .i64 t141, .slice Ao9 t142.length co9, .string t145, .string t146] 24 (0, 0)) (by exact Sq.bk BK148.out) hb); have n4_ := Aside0.mk (blk_below (g := gb158) (o := .cells #[.int .i64 t149, .int .i64 t150, .int .i64 t151, .slice Ao14 t152.length co14, .string t155, .string t156] 24 (0, 0)) (by exact Sq.bk BK158.out) hb); have n5_ := Aside0.mk (below_step (by repeat (first | (with_reducible first | exact HB.out | apply below_alloc | apply pw_below_drewN | apply below_drew1 | refine below_set ?_ GE148.out | refine below_set ?_ GE158.out) | exact HB.out)) hb); clear HO_149003; clear HO_159003; clear BK148; clear BK158; clear HB; have HO_149003 := n0_; have HO_159003 := n1_; have HO168 := n2_; have BK148 := n3_; have BK158 := n4_; have HB := n5_; clear n0_ n1_ n2_ n3_ n4_ n5_; (try clear hb); (try clear hb2); (try clear hk); (try clear hi); (try clear ho0)) | ((with_reducible refine gate_dst (N := 9) rfl ?_); refine box_event ?hg (N := 9) ?hd (cs := #[.int .i64 0, .int .i64 0, .int .i64 0, .slice none 0 0, .string (⟨#[]⟩ : ByteArray), .string (⟨#[]⟩ : ByteArray)]) (t := 24) ?hr ?_; (case hd => rfl); (case hg => rfl); (case hr => first | (go_simp; done) | (go_simp; rfl)); intro gb172 hg w43 hbox hb; have n0_ := Aside0.mk (Kd.R_below (by (with_reducible repeat (first | apply Kd.R_alloc | apply Kd.R_drewN | apply Kd.R_drew)); exact HO_149003.out) hb); have n1_ := Aside0.mk (Kd.R_below (by (with_reducible repeat (first | apply Kd.R_alloc | apply Kd.R_drewN | apply Kd.R_drew)); exact HO_159003.out) hb); have n2_ := Aside0.mk (Kd.R_below (by (with_reducible repeat (first | apply Kd.R_alloc | apply Kd.R_drewN | apply Kd.R_drew)); exact HO168.out) hb); have n3_ := Aside0.mk (blk_below (g := gb148) (o := .cells #[.int .i64 t139, .int .i64 t140, .int .i64 t141, .slice Ao9 t142.length co9, .string t145, .string t146] 24 (0, 0)) (by exact Sq.bk BK148.out) hb); have n4_ := Aside0.mk (blk_below (g := gb158) (o := .cells #[.int .i64 t149, .int .i64 t150, .int .i64 t151, .slice Ao14 t152.length co14, .string t155, .string t156] 24 (0, 0)) (by exact Sq.bk BK158.out) hb); have n5_ := Aside0.mk (below_step (by repeat (first | (with_reducible first | exact HB.out | apply below_alloc | apply pw_below_drewN | apply below_drew1 | refine below_set ?_ GE148.out | refine below_set ?_ GE158.out) | exact HB.out)) hb); have n6_ := Aside0.mk (hbox); have n7_ := Aside0.mk ((by rw [hg]; exact (below_size (by repeat (first | (with_reducible first | exact HB.out | apply below_alloc | apply pw_below_drewN | apply below_drew1 | refine below_set ?_ GE148.out | refine below_set ?_ GE158.out) | exact HB.out))) : w.heap.size ≤ gb172)); have n8_ := Aside0.mk ((by rw [hg]; exact (below_size (by repeat (first | (with_reducible first | exact HB.out | apply below_alloc | apply pw_below_drewN | apply below_drew1 | refine below_set ?_ GE148.out | refine below_set ?_ GE158.out) | exact HB.out))) : w.heap.size ≤ gb172)); have n9_ := Aside0.mk ((by rw [hg]; exact Nat.ne_of_lt (blk_lt (g := gb148) (o := .cells #[.int .i64 t139, .int .i64 t140, .int .i64 t141, .slice Ao9 t142.length co9, .string t145, .string t146] 24 (0, 0)) (by exact Sq.bk BK148.out)) : gb148 ≠ gb172)); have n10_ := Aside0.mk ((by rw [hg]; exact Nat.ne_of_gt (blk_lt (g := gb148) (o := .cells #[.int .i64 t139, .int .i64 t140, .int .i64 t141, .slice Ao9 t142.length co9, .string t145, .string t146] 24 (0, 0)) (by exact Sq.bk BK148.out)) : gb172 ≠ gb148)); have n11_ := Aside0.mk ((by rw [hg]; exact Nat.ne_of_lt (blk_lt (g := gb158) (o := .cells #[.int .i64 t149, .int .i64 t150, .int .i64 t151, .slice Ao14 t152.length co14, .string t155, .string t156] 24 (0, 0)) (by exact Sq.bk BK158.out)) : gb158 ≠ gb172)); have n12_ := Aside0.mk ((by rw [hg]; exact Nat.ne_of_gt (blk_lt (g := gb158) (o := .cells #[.int .i64 t149, .int .i64 t150, .int .i64 t151, .slice Ao14 t152.length co14, .string t155, .string t156] 24 (0, 0)) (by exact Sq.bk BK158.out)) : gb172 ≠ gb158)); clear HO_149003; clear HO_159003; clear HO168; clear BK148; clear BK158; clear HB; have HO_149003 := n0_; have HO_159003 := n1_; have HO168 := n2_; have BK148 := n3_; have BK158 := n4_; have HB := n5_; have BK172 := n6_; have GW172 := n7_; have GE172 := n8_; have NB148_172 := n9_; have NB172_148 := n10_; have NB158_172 := n11_; have NB172_158 := n12_; clear n0_ n1_ n2_ n3_ n4_ n5_ n6_ n7_ n8_ n9_ n10_ n11_ n12_; clear hb hbox hg; have hnb44 := NB172_148.out; have hnc44 := NB148_172.out; have hnb45 := NB172_158.out; have hnc45 := NB158_172.out; obtain ⟨hcz46_0, hcz46_1, hcz46_2, hcz46_3, hcz46_4, hcz46_5⟩ := Sq.c6 BK172.out; have hfz46_0 := Sq.fz BK172.out; obtain ⟨Ao47, co47, eo47⟩ := Kd.R_slice HO168.out; subst eo47))
       (try simp only [Act.put, List.setIfInBounds_toArray, List.set_cons_zero, List.set_cons_succ])
       go_cut [57] (fun v57 wc => ∃ (kq : Nat) (x57_35 : Bool), v57 = .bool x57_35 ∧ Aside0 (laws_FnExactReadCall.j1 kq t160 x57_35 t149 t150 t151 t161 t155 t156 = some r) ∧ Aside0 (kq ≤ kj4) ∧ Aside0 (Kd.R (Kd.int .i64) 3 wc w.heap.size (fun k_ => some k_ ≠ ((.slice Ao14 t152.length co14) : Value).ownBlock ∧ some k_ ≠ ((.slice Ao47 t166.length co47) : Value).ownBlock) (.slice Ao9 t142.length co9) t142) ∧ Aside0 (Kd.R (Kd.int .i64) 3 wc w.heap.size (fun k_ => some k_ ≠ ((.slice Ao9 t142.length co9) : Value).ownBlock ∧ some k_ ≠ ((.slice Ao47 t166.length co47) : Value).ownBlock) (.slice Ao14 t152.length co14) t161) ∧ Aside0 (Kd.R (Kd.int .i64) 3 wc w.heap.size (fun k_ => some k_ ≠ ((.slice Ao9 t142.length co9) : Value).ownBlock ∧ some k_ ≠ ((.slice Ao14 t152.length co14) : Value).ownBlock) (.slice Ao47 t166.length co47) t166) ∧ Aside0 (wc.heap[gb148]? = some (.cells #[.int .i64 t139, .int .i64 t140, .int .i64 t141, (.slice Ao9 t142.length co9), .string t145, .string t146] 24 (0, 0))) ∧ Aside0 (wc.heap[gb158]? = some (.cells #[.int .i64 t149, .int .i64 t150, .int .i64 t151, (.slice Ao14 t152.length co14), .string t155, .string t156] 24 (0, 0))) ∧ Aside0 (wc.heap[gb172]? = some (.cells #[.int .i64 t163, .int .i64 t164, .int .i64 t165, (.slice Ao47 t166.length co47), .string t169, .string t170] 24 (0, 0))) ∧ Aside0 (Below w.heap.size w wc))
       case first =>
        have H := HC36.out
        clear HC36
        replace H := Option.bind_eq_some_iff.mp H
        obtain ⟨t173, A480, H⟩ := H
        try dsimp -failIfUnchanged -simprocs only at H
        have A48 := Aside0.mk A480
        clear A480
        by_cases c49 : t173 = true
        ·subst c49
         rw [if_pos rfl] at H
         try dsimp -failIfUnchanged -simprocs only at H
         have H' := Aside0.mk H
         clear H
         have hnb50 := NB172_148.out
         have hnc50 := NB148_172.out
         have hnb51 := NB172_158.out
         have hnc51 := NB158_172.out
         obtain ⟨hcz52_0, hcz52_1, hcz52_2, hcz52_3, hcz52_4, hcz52_5⟩ := Sq.c6 BK172.out
         have hfz52_0 := Sq.fz BK172.out
         have hnb53 := NB148_158.out
         have hnc53 := NB158_148.out
         obtain ⟨hcz54_0, hcz54_1, hcz54_2, hcz54_3, hcz54_4, hcz54_5⟩ := Sq.c6 BK148.out
         have hfz54_0 := Sq.fz BK148.out
         go_wp2_with (first | ((with_reducible refine gate_callee (f := 6) rfl ?_); refine Sq.goM (some 51) Tryz.func6 #[.agg #[.int .i64 t163, .int .i64 t164, .int .i64 t165, .slice Ao47 t166.length co47, .string t169, .string t170], .agg #[.int .i64 t139, .int .i64 t140, .int .i64 t141, .slice Ao9 t142.length co9, .string t145, .string t146]] ?_; (with_reducible refine (laws_eqCall.calls kj4 t163 t164 t165 _ _ t166 t169 t170 t139 t140 t141 _ _ t142 t145 t146 true _ ?side1 ?side2 ?side3 ?side4 A48.out).mono ?_); (case side1 => refine (Kd.R_reads' (e := 3) (base := w.heap.size) (ok := fun k_ => ((True ∧ some k_ ≠ (.slice Ao9 t142.length co9 : Value).ownBlock) ∧ some k_ ≠ (.slice Ao14 t152.length co14 : Value).ownBlock)) (n := t166.length) (c := co47) ?_).2.2; exact (by (with_reducible repeat (first | apply Kd.R_alloc | apply Kd.R_drewN | apply Kd.R_drew)); exact (Kd.R_mono (Kd.R_far (p := ⟨gb172, 5, none⟩) (Kd.R_far (p := ⟨gb172, 4, none⟩) (Kd.R_far (p := ⟨gb172, 3, none⟩) (Kd.R_far (p := ⟨gb172, 2, none⟩) (Kd.R_far (p := ⟨gb172, 1, none⟩) (Kd.R_far (p := ⟨gb172, 0, none⟩) (Kd.R_types HO168.out BK172.out (by decide)) (fun _ hk => hk.2) (.int .i64 t163)) (fun _ hk => hk.2) (.int .i64 t164)) (fun _ hk => hk.2) (.int .i64 t165)) (fun _ hk => hk.2) (.slice Ao47 t166.length co47)) (fun _ hk => hk.2) (.string t169)) (fun _ hk => hk.2) (.string t170)) (fun _ h_ => h_.1)))); (case side2 => exact (Kd.R_reads' HO168.out).2.1); (case side3 => refine (Kd.R_reads' (e := 3) (base := w.heap.size) (ok := fun k_ => (some k_ ≠ (.slice Ao14 t152.length co14 : Value).ownBlock ∧ some k_ ≠ (.slice Ao47 t166.length co47 : Value).ownBlock)) (n := t142.length) (c := co9) ?_).2.2; exact (by (with_reducible repeat (first | apply Kd.R_alloc | apply Kd.R_drewN | apply Kd.R_drew)); exact (Kd.R_mono (Kd.R_far (p := ⟨gb172, 5, none⟩) (Kd.R_far (p := ⟨gb172, 4, none⟩) (Kd.R_far (p := ⟨gb172, 3, none⟩) (Kd.R_far (p := ⟨gb172, 2, none⟩) (Kd.R_far (p := ⟨gb172, 1, none⟩) (Kd.R_far (p := ⟨gb172, 0, none⟩) (Kd.R_types HO_149003.out BK172.out (by decide)) (fun _ hk => hk.2) (.int .i64 t163)) (fun _ hk => hk.2) (.int .i64 t164)) (fun _ hk => hk.2) (.int .i64 t165)) (fun _ hk => hk.2) (.slice Ao47 t166.length co47)) (fun _ hk => hk.2) (.string t169)) (fun _ hk => hk.2) (.string t170)) (fun _ h_ => h_.1)))); (case side4 => exact (Kd.R_reads' HO_149003.out).2.1); rintro e w55 ⟨rfl, hb⟩; refine ⟨_, rfl, ?_⟩; have n0_ := Aside0.mk (Kd.R_below (by (with_reducible repeat (first | apply Kd.R_alloc | apply Kd.R_drewN | apply Kd.R_drew)); exact (Kd.R_mono (Kd.R_far (p := ⟨gb172, 5, none⟩) (Kd.R_far (p := ⟨gb172, 4, none⟩) (Kd.R_far (p := ⟨gb172, 3, none⟩) (Kd.R_far (p := ⟨gb172, 2, none⟩) (Kd.R_far (p := ⟨gb172, 1, none⟩) (Kd.R_far (p := ⟨gb172, 0, none⟩) (Kd.R_types HO_149003.out BK172.out (by decide)) (fun _ hk => hk.2) (.int .i64 t163)) (fun _ hk => hk.2) (.int .i64 t164)) (fun _ hk => hk.2) (.int .i64 t165)) (fun _ hk => hk.2) (.slice Ao47 t166.length co47)) (fun _ hk => hk.2) (.string t169)) (fun _ hk => hk.2) (.string t170)) (fun _ h_ => h_.1))) hb); have n1_ := Aside0.mk (Kd.R_below (by (with_reducible repeat (first | apply Kd.R_alloc | apply Kd.R_drewN | apply Kd.R_drew)); exact (Kd.R_mono (Kd.R_far (p := ⟨gb172, 5, none⟩) (Kd.R_far (p := ⟨gb172, 4, none⟩) (Kd.R_far (p := ⟨gb172, 3, none⟩) (Kd.R_far (p := ⟨gb172, 2, none⟩) (Kd.R_far (p := ⟨gb172, 1, none⟩) (Kd.R_far (p := ⟨gb172, 0, none⟩) (Kd.R_types HO_159003.out BK172.out (by decide)) (fun _ hk => hk.2) (.int .i64 t163)) (fun _ hk => hk.2) (.int .i64 t164)) (fun _ hk => hk.2) (.int .i64 t165)) (fun _ hk => hk.2) (.slice Ao47 t166.length co47)) (fun _ hk => hk.2) (.string t169)) (fun _ hk => hk.2) (.string t170)) (fun _ h_ => h_.1))) hb); have n2_ := Aside0.mk (Kd.R_below (by (with_reducible repeat (first | apply Kd.R_alloc | apply Kd.R_drewN | apply Kd.R_drew)); exact (Kd.R_mono (Kd.R_far (p := ⟨gb172, 5, none⟩) (Kd.R_far (p := ⟨gb172, 4, none⟩) (Kd.R_far (p := ⟨gb172, 3, none⟩) (Kd.R_far (p := ⟨gb172, 2, none⟩) (Kd.R_far (p := ⟨gb172, 1, none⟩) (Kd.R_far (p := ⟨gb172, 0, none⟩) (Kd.R_types HO168.out BK172.out (by decide)) (fun _ hk => hk.2) (.int .i64 t163)) (fun _ hk => hk.2) (.int .i64 t164)) (fun _ hk => hk.2) (.int .i64 t165)) (fun _ hk => hk.2) (.slice Ao47 t166.length co47)) (fun _ hk => hk.2) (.string t169)) (fun _ hk => hk.2) (.string t170)) (fun _ h_ => h_.1))) hb); have n3_ := Aside0.mk (blk_below (g := gb148) (o := .cells #[.int .i64 t139, .int .i64 t140, .int .i64 t141, .slice Ao9 t142.length co9, .string t145, .string t146] 24 (0, 0)) (by refine Sq.bk ?_; refine blk_far ?_ NB148_172.out _; refine Sq.bk ?_; refine blk_far ?_ NB148_172.out _; refine Sq.bk ?_; refine blk_far ?_ NB148_172.out _; refine Sq.bk ?_; refine blk_far ?_ NB148_172.out _; refine Sq.bk ?_; refine blk_far ?_ NB148_172.out _; refine Sq.bk ?_; refine blk_far ?_ NB148_172.out _; exact Sq.bk BK148.out) hb); have n4_ := Aside0.mk (blk_below (g := gb158) (o := .cells #[.int .i64 t149, .int .i64 t150, .int .i64 t151, .slice Ao14 t152.length co14, .string t155, .string t156] 24 (0, 0)) (by refine Sq.bk ?_; refine blk_far ?_ NB158_172.out _; refine Sq.bk ?_; refine blk_far ?_ NB158_172.out _; refine Sq.bk ?_; refine blk_far ?_ NB158_172.out _; refine Sq.bk ?_; refine blk_far ?_ NB158_172.out _; refine Sq.bk ?_; refine blk_far ?_ NB158_172.out _; refine Sq.bk ?_; refine blk_far ?_ NB158_172.out _; exact Sq.bk BK158.out) hb); have n5_ := Aside0.mk (blk_below (g := gb172) (o := .cells #[.int .i64 t163, .int .i64 t164, .int .i64 t165, .slice Ao47 t166.length co47, .string t169, .string t170] 24 (0, 0)) (by refine Sq.bk ?_; refine blk_put (cs := #[.int .i64 t163, .int .i64 t164, .int .i64 t165, .slice Ao47 t166.length co47, .string t169, .string (⟨#[]⟩ : ByteArray)]) ?_ 5 _ rfl; refine Sq.bk ?_; refine blk_put (cs := #[.int .i64 t163, .int .i64 t164, .int .i64 t165, .slice Ao47 t166.length co47, .string (⟨#[]⟩ : ByteArray), .string (⟨#[]⟩ : ByteArray)]) ?_ 4 _ rfl; refine Sq.bk ?_; refine blk_put (cs := #[.int .i64 t163, .int .i64 t164, .int .i64 t165, .slice none 0 0, .string (⟨#[]⟩ : ByteArray), .string (⟨#[]⟩ : ByteArray)]) ?_ 3 _ rfl; refine Sq.bk ?_; refine blk_put (cs := #[.int .i64 t163, .int .i64 t164, .int .i64 0, .slice none 0 0, .string (⟨#[]⟩ : ByteArray), .string (⟨#[]⟩ : ByteArray)]) ?_ 2 _ rfl; refine Sq.bk ?_; refine blk_put (cs := #[.int .i64 t163, .int .i64 0, .int .i64 0, .slice none 0 0, .string (⟨#[]⟩ : ByteArray), .string (⟨#[]⟩ : ByteArray)]) ?_ 1 _ rfl; refine Sq.bk ?_; refine blk_put (cs := #[.int .i64 0, .int .i64 0, .int .i64 0, .slice none 0 0, .string (⟨#[]⟩ : ByteArray), .string (⟨#[]⟩ : ByteArray)]) ?_ 0 _ rfl; exact Sq.bk BK172.out) hb); have n6_ := Aside0.mk (below_step (by repeat (first | (with_reducible first | exact HB.out | apply below_alloc | apply pw_below_drewN | apply below_drew1 | refine below_set ?_ GE148.out | refine below_set ?_ GE158.out | refine below_set ?_ GE172.out) | exact HB.out)) hb); clear HO_149003; clear HO_159003; clear HO168; clear BK148; clear BK158; clear BK172; clear HB; have HO_149003 := n0_; have HO_159003 := n1_; have HO168 := n2_; have BK148 := n3_; have BK158 := n4_; have BK172 := n5_; have HB := n6_; clear n0_ n1_ n2_ n3_ n4_ n5_ n6_; (try clear hb); (try clear hb2); (try clear hk); (try clear hi)))
         go_meet
         case rel => exact ⟨_, ((t171 != t147)), (by first | rfl | (simp; done) | (simp [*]; done) | (generalize ByteArray.toList _ = l_; cases l_ <;> rfl)), H', ⟨by have := HJ4.out; first | omega | exact Nat.le_refl _⟩, ⟨by (with_reducible repeat (first | apply Kd.R_alloc | apply Kd.R_drewN | apply Kd.R_drew)); exact HO_149003.out⟩, ⟨by (with_reducible repeat (first | apply Kd.R_alloc | apply Kd.R_drewN | apply Kd.R_drew)); exact HO_159003.out⟩, ⟨by (with_reducible repeat (first | apply Kd.R_alloc | apply Kd.R_drewN | apply Kd.R_drew)); exact Kd.R_mono HO168.out (fun _ hk => ⟨hk.1.2, hk.2⟩)⟩, ⟨by exact Sq.bk BK148.out⟩, ⟨by exact Sq.bk BK158.out⟩, ⟨by exact Sq.bk BK172.out⟩, ⟨by repeat (first | (with_reducible first | exact HB.out | apply below_alloc | apply pw_below_drewN | apply below_drew1 | refine below_set ?_ GE148.out | refine below_set ?_ GE158.out | refine below_set ?_ GE172.out) | exact HB.out)⟩⟩
        ·replace c49 := Bool.eq_false_iff.mpr c49
         subst c49
         rw [if_neg (show ¬ (false = true) by decide)] at H
         try dsimp -failIfUnchanged -simprocs only at H
         have H' := Aside0.mk H
         clear H
         have hnb56 := NB172_148.out
         have hnc56 := NB148_172.out
         have hnb57 := NB172_158.out
         have hnc57 := NB158_172.out
         obtain ⟨hcz58_0, hcz58_1, hcz58_2, hcz58_3, hcz58_4, hcz58_5⟩ := Sq.c6 BK172.out
         have hfz58_0 := Sq.fz BK172.out
         have hnb59 := NB148_158.out
         have hnc59 := NB158_148.out
         obtain ⟨hcz60_0, hcz60_1, hcz60_2, hcz60_3, hcz60_4, hcz60_5⟩ := Sq.c6 BK148.out
         have hfz60_0 := Sq.fz BK148.out
         go_wp2_with (first | ((with_reducible refine gate_callee (f := 6) rfl ?_); refine Sq.goM (some 51) Tryz.func6 #[.agg #[.int .i64 t163, .int .i64 t164, .int .i64 t165, .slice Ao47 t166.length co47, .string t169, .string t170], .agg #[.int .i64 t139, .int .i64 t140, .int .i64 t141, .slice Ao9 t142.length co9, .string t145, .string t146]] ?_; (with_reducible refine (laws_eqCall.calls kj4 t163 t164 t165 _ _ t166 t169 t170 t139 t140 t141 _ _ t142 t145 t146 false _ ?side1 ?side2 ?side3 ?side4 A48.out).mono ?_); (case side1 => refine (Kd.R_reads' (e := 3) (base := w.heap.size) (ok := fun k_ => ((True ∧ some k_ ≠ (.slice Ao9 t142.length co9 : Value).ownBlock) ∧ some k_ ≠ (.slice Ao14 t152.length co14 : Value).ownBlock)) (n := t166.length) (c := co47) ?_).2.2; exact (by (with_reducible repeat (first | apply Kd.R_alloc | apply Kd.R_drewN | apply Kd.R_drew)); exact (Kd.R_mono (Kd.R_far (p := ⟨gb172, 5, none⟩) (Kd.R_far (p := ⟨gb172, 4, none⟩) (Kd.R_far (p := ⟨gb172, 3, none⟩) (Kd.R_far (p := ⟨gb172, 2, none⟩) (Kd.R_far (p := ⟨gb172, 1, none⟩) (Kd.R_far (p := ⟨gb172, 0, none⟩) (Kd.R_types HO168.out BK172.out (by decide)) (fun _ hk => hk.2) (.int .i64 t163)) (fun _ hk => hk.2) (.int .i64 t164)) (fun _ hk => hk.2) (.int .i64 t165)) (fun _ hk => hk.2) (.slice Ao47 t166.length co47)) (fun _ hk => hk.2) (.string t169)) (fun _ hk => hk.2) (.string t170)) (fun _ h_ => h_.1)))); (case side2 => exact (Kd.R_reads' HO168.out).2.1); (case side3 => refine (Kd.R_reads' (e := 3) (base := w.heap.size) (ok := fun k_ => (some k_ ≠ (.slice Ao14 t152.length co14 : Value).ownBlock ∧ some k_ ≠ (.slice Ao47 t166.length co47 : Value).ownBlock)) (n := t142.length) (c := co9) ?_).2.2; exact (by (with_reducible repeat (first | apply Kd.R_alloc | apply Kd.R_drewN | apply Kd.R_drew)); exact (Kd.R_mono (Kd.R_far (p := ⟨gb172, 5, none⟩) (Kd.R_far (p := ⟨gb172, 4, none⟩) (Kd.R_far (p := ⟨gb172, 3, none⟩) (Kd.R_far (p := ⟨gb172, 2, none⟩) (Kd.R_far (p := ⟨gb172, 1, none⟩) (Kd.R_far (p := ⟨gb172, 0, none⟩) (Kd.R_types HO_149003.out BK172.out (by decide)) (fun _ hk => hk.2) (.int .i64 t163)) (fun _ hk => hk.2) (.int .i64 t164)) (fun _ hk => hk.2) (.int .i64 t165)) (fun _ hk => hk.2) (.slice Ao47 t166.length co47)) (fun _ hk => hk.2) (.string t169)) (fun _ hk => hk.2) (.string t170)) (fun _ h_ => h_.1)))); (case side4 => exact (Kd.R_reads' HO_149003.out).2.1); rintro e w61 ⟨rfl, hb⟩; refine ⟨_, rfl, ?_⟩; have n0_ := Aside0.mk (Kd.R_below (by (with_reducible repeat (first | apply Kd.R_alloc | apply Kd.R_drewN | apply Kd.R_drew)); exact (Kd.R_mono (Kd.R_far (p := ⟨gb172, 5, none⟩) (Kd.R_far (p := ⟨gb172, 4, none⟩) (Kd.R_far (p := ⟨gb172, 3, none⟩) (Kd.R_far (p := ⟨gb172, 2, none⟩) (Kd.R_far (p := ⟨gb172, 1, none⟩) (Kd.R_far (p := ⟨gb172, 0, none⟩) (Kd.R_types HO_149003.out BK172.out (by decide)) (fun _ hk => hk.2) (.int .i64 t163)) (fun _ hk => hk.2) (.int .i64 t164)) (fun _ hk => hk.2) (.int .i64 t165)) (fun _ hk => hk.2) (.slice Ao47 t166.length co47)) (fun _ hk => hk.2) (.string t169)) (fun _ hk => hk.2) (.string t170)) (fun _ h_ => h_.1))) hb); have n1_ := Aside0.mk (Kd.R_below (by (with_reducible repeat (first | apply Kd.R_alloc | apply Kd.R_drewN | apply Kd.R_drew)); exact (Kd.R_mono (Kd.R_far (p := ⟨gb172, 5, none⟩) (Kd.R_far (p := ⟨gb172, 4, none⟩) (Kd.R_far (p := ⟨gb172, 3, none⟩) (Kd.R_far (p := ⟨gb172, 2, none⟩) (Kd.R_far (p := ⟨gb172, 1, none⟩) (Kd.R_far (p := ⟨gb172, 0, none⟩) (Kd.R_types HO_159003.out BK172.out (by decide)) (fun _ hk => hk.2) (.int .i64 t163)) (fun _ hk => hk.2) (.int .i64 t164)) (fun _ hk => hk.2) (.int .i64 t165)) (fun _ hk => hk.2) (.slice Ao47 t166.length co47)) (fun _ hk => hk.2) (.string t169)) (fun _ hk => hk.2) (.string t170)) (fun _ h_ => h_.1))) hb); have n2_ := Aside0.mk (Kd.R_below (by (with_reducible repeat (first | apply Kd.R_alloc | apply Kd.R_drewN | apply Kd.R_drew)); exact (Kd.R_mono (Kd.R_far (p := ⟨gb172, 5, none⟩) (Kd.R_far (p := ⟨gb172, 4, none⟩) (Kd.R_far (p := ⟨gb172, 3, none⟩) (Kd.R_far (p := ⟨gb172, 2, none⟩) (Kd.R_far (p := ⟨gb172, 1, none⟩) (Kd.R_far (p := ⟨gb172, 0, none⟩) (Kd.R_types HO168.out BK172.out (by decide)) (fun _ hk => hk.2) (.int .i64 t163)) (fun _ hk => hk.2) (.int .i64 t164)) (fun _ hk => hk.2) (.int .i64 t165)) (fun _ hk => hk.2) (.slice Ao47 t166.length co47)) (fun _ hk => hk.2) (.string t169)) (fun _ hk => hk.2) (.string t170)) (fun _ h_ => h_.1))) hb); have n3_ := Aside0.mk (blk_below (g := gb148) (o := .cells #[.int .i64 t139, .int .i64 t140, .int .i64 t141, .slice Ao9 t142.length co9, .string t145, .string t146] 24 (0, 0)) (by refine Sq.bk ?_; refine blk_far ?_ NB148_172.out _; refine Sq.bk ?_; refine blk_far ?_ NB148_172.out _; refine Sq.bk ?_; refine blk_far ?_ NB148_172.out _; refine Sq.bk ?_; refine blk_far ?_ NB148_172.out _; refine Sq.bk ?_; refine blk_far ?_ NB148_172.out _; refine Sq.bk ?_; refine blk_far ?_ NB148_172.out _; exact Sq.bk BK148.out) hb); have n4_ := Aside0.mk (blk_below (g := gb158) (o := .cells #[.int .i64 t149, .int .i64 t150, .int .i64 t151, .slice Ao14 t152.length co14, .string t155, .string t156] 24 (0, 0)) (by refine Sq.bk ?_; refine blk_far ?_ NB158_172.out _; refine Sq.bk ?_; refine blk_far ?_ NB158_172.out _; refine Sq.bk ?_; refine blk_far ?_ NB158_172.out _; refine Sq.bk ?_; refine blk_far ?_ NB158_172.out _; refine Sq.bk ?_; refine blk_far ?_ NB158_172.out _; refine Sq.bk ?_; refine blk_far ?_ NB158_172.out _; exact Sq.bk BK158.out) hb); have n5_ := Aside0.mk (blk_below (g := gb172) (o := .cells #[.int .i64 t163, .int .i64 t164, .int .i64 t165, .slice Ao47 t166.length co47, .string t169, .string t170] 24 (0, 0)) (by refine Sq.bk ?_; refine blk_put (cs := #[.int .i64 t163, .int .i64 t164, .int .i64 t165, .slice Ao47 t166.length co47, .string t169, .string (⟨#[]⟩ : ByteArray)]) ?_ 5 _ rfl; refine Sq.bk ?_; refine blk_put (cs := #[.int .i64 t163, .int .i64 t164, .int .i64 t165, .slice Ao47 t166.length co47, .string (⟨#[]⟩ : ByteArray), .string (⟨#[]⟩ : ByteArray)]) ?_ 4 _ rfl; refine Sq.bk ?_; refine blk_put (cs := #[.int .i64 t163, .int .i64 t164, .int .i64 t165, .slice none 0 0, .string (⟨#[]⟩ : ByteArray), .string (⟨#[]⟩ : ByteArray)]) ?_ 3 _ rfl; refine Sq.bk ?_; refine blk_put (cs := #[.int .i64 t163, .int .i64 t164, .int .i64 0, .slice none 0 0, .string (⟨#[]⟩ : ByteArray), .string (⟨#[]⟩ : ByteArray)]) ?_ 2 _ rfl; refine Sq.bk ?_; refine blk_put (cs := #[.int .i64 t163, .int .i64 0, .int .i64 0, .slice none 0 0, .string (⟨#[]⟩ : ByteArray), .string (⟨#[]⟩ : ByteArray)]) ?_ 1 _ rfl; refine Sq.bk ?_; refine blk_put (cs := #[.int .i64 0, .int .i64 0, .int .i64 0, .slice none 0 0, .string (⟨#[]⟩ : ByteArray), .string (⟨#[]⟩ : ByteArray)]) ?_ 0 _ rfl; exact Sq.bk BK172.out) hb); have n6_ := Aside0.mk (below_step (by repeat (first | (with_reducible first | exact HB.out | apply below_alloc | apply pw_below_drewN | apply below_drew1 | refine below_set ?_ GE148.out | refine below_set ?_ GE158.out | refine below_set ?_ GE172.out) | exact HB.out)) hb); clear HO_149003; clear HO_159003; clear HO168; clear BK148; clear BK158; clear BK172; clear HB; have HO_149003 := n0_; have HO_159003 := n1_; have HO168 := n2_; have BK148 := n3_; have BK158 := n4_; have BK172 := n5_; have HB := n6_; clear n0_ n1_ n2_ n3_ n4_ n5_ n6_; (try clear hb); (try clear hb2); (try clear hk); (try clear hi)))
         go_meet
         case rel => exact ⟨_, (true), (by first | rfl | (simp; done) | (simp [*]; done) | (generalize ByteArray.toList _ = l_; cases l_ <;> rfl)), H', ⟨by have := HJ4.out; first | omega | exact Nat.le_refl _⟩, ⟨by (with_reducible repeat (first | apply Kd.R_alloc | apply Kd.R_drewN | apply Kd.R_drew)); exact HO_149003.out⟩, ⟨by (with_reducible repeat (first | apply Kd.R_alloc | apply Kd.R_drewN | apply Kd.R_drew)); exact HO_159003.out⟩, ⟨by (with_reducible repeat (first | apply Kd.R_alloc | apply Kd.R_drewN | apply Kd.R_drew)); exact Kd.R_mono HO168.out (fun _ hk => ⟨hk.1.2, hk.2⟩)⟩, ⟨by exact Sq.bk BK148.out⟩, ⟨by exact Sq.bk BK158.out⟩, ⟨by exact Sq.bk BK172.out⟩, ⟨by repeat (first | (with_reducible first | exact HB.out | apply below_alloc | apply pw_below_drewN | apply below_drew1 | refine below_set ?_ GE148.out | refine below_set ?_ GE158.out | refine below_set ?_ GE172.out) | exact HB.out)⟩⟩
       case rest =>
        clear HC36
        try clear c1
        try clear c2
        try clear c2b0
        try clear c2b1
        try clear p2
        try clear c3
        try clear c4
        try clear c5
        try clear c6
        try clear c7
        try clear c8
        try clear c12
        try clear c16
        try clear c17
        try clear c21
        try clear c25
        try clear c28
        try clear c28b0
        try clear c29
        try clear c34
        try clear c34b0
        try clear c34b1
        try clear c37
        try clear c44
        try clear c45
        try clear c49
        try clear c50
        try clear c51
        try clear c53
        try clear c56
        try clear c57
        try clear c59
        try clear hcz13_0
        try clear hcz13_1
        try clear hcz13_2
        try clear hcz13_3
        try clear hcz13_4
        try clear hcz13_5
        try clear hcz18_0
        try clear hcz18_1
        try clear hcz18_2
        try clear hcz18_3
        try clear hcz18_4
        try clear hcz18_5
        try clear hcz19_0
        try clear hcz19_1
        try clear hcz19_2
        try clear hcz19_3
        try clear hcz19_4
        try clear hcz19_5
        try clear hcz22_0
        try clear hcz22_1
        try clear hcz22_2
        try clear hcz22_3
        try clear hcz22_4
        try clear hcz22_5
        try clear hcz23_0
        try clear hcz23_1
        try clear hcz23_2
        try clear hcz23_3
        try clear hcz23_4
        try clear hcz23_5
        try clear hcz30_0
        try clear hcz30_1
        try clear hcz30_2
        try clear hcz30_3
        try clear hcz30_4
        try clear hcz30_5
        try clear hcz32_0
        try clear hcz32_1
        try clear hcz32_2
        try clear hcz32_3
        try clear hcz32_4
        try clear hcz32_5
        try clear hcz38_0
        try clear hcz38_1
        try clear hcz38_2
        try clear hcz38_3
        try clear hcz38_4
        try clear hcz38_5
        try clear hcz40_0
        try clear hcz40_1
        try clear hcz40_2
        try clear hcz40_3
        try clear hcz40_4
        try clear hcz40_5
        try clear hcz46_0
        try clear hcz46_1
        try clear hcz46_2
        try clear hcz46_3
        try clear hcz46_4
        try clear hcz46_5
        try clear hcz52_0
        try clear hcz52_1
        try clear hcz52_2
        try clear hcz52_3
        try clear hcz52_4
        try clear hcz52_5
        try clear hcz54_0
        try clear hcz54_1
        try clear hcz54_2
        try clear hcz54_3
        try clear hcz54_4
        try clear hcz54_5
        try clear hcz58_0
        try clear hcz58_1
        try clear hcz58_2
        try clear hcz58_3
        try clear hcz58_4
        try clear hcz58_5
        try clear hcz60_0
        try clear hcz60_1
        try clear hcz60_2
        try clear hcz60_3
        try clear hcz60_4
        try clear hcz60_5
        try clear hcz8_0
        try clear hcz8_1
        try clear hcz8_2
        try clear hcz8_3
        try clear hcz8_4
        try clear hcz8_5
        try clear hfz13_0
        try clear hfz18_0
        try clear hfz18_1
        try clear hfz18_2
        try clear hfz18_3
        try clear hfz18_4
        try clear hfz18_5
        try clear hfz19_0
        try clear hfz19_1
        try clear hfz19_2
        try clear hfz19_3
        try clear hfz19_4
        try clear hfz19_5
        try clear hfz22_0
        try clear hfz22_1
        try clear hfz22_2
        try clear hfz22_3
        try clear hfz22_4
        try clear hfz22_5
        try clear hfz23_0
        try clear hfz23_1
        try clear hfz23_2
        try clear hfz23_3
        try clear hfz23_4
        try clear hfz23_5
        try clear hfz30_0
        try clear hfz32_0
        try clear hfz38_0
        try clear hfz40_0
        try clear hfz46_0
        try clear hfz52_0
        try clear hfz54_0
        try clear hfz58_0
        try clear hfz60_0
        try clear hfz8_0
        try clear p2
        obtain ⟨kq, x57_35, rfl, HA, HJ35, HO_149003, HO_159003, HO_173003, BK148, BK158, BK172, HB⟩ := hcut
        have hl159003_35 := (Kd.R_reads' HO_159003.out).1
        rw [hl159003_35] at HO_159003
        (try simp only [hl159003_35])
        (try simp only [hl159003_35] at BK148)
        (try simp only [hl159003_35] at BK158)
        (try simp only [hl159003_35] at BK172)
        (try simp only [hl159003_35] at HO_149003)
        (try simp only [hl159003_35] at HO_173003)
        cases kq with
        | zero => exact absurd HA.out (by simp [laws_FnExactReadCall.j1])
        | succ kj35 =>
         have H := HA.out
         clear HA
         simp only [laws_FnExactReadCall.j1] at H
         by_cases c62 : x57_35 = true
         ·subst c62
          rw [if_pos rfl] at H
          try dsimp -failIfUnchanged -simprocs only at H
          obtain rfl := Option.some.inj H
          go_wp2
          go_ret
          exact ⟨by first | rfl | (simp [errW_none, errW_some] <;> rfl) | (simp [*, errW_none, errW_some] <;> rfl), by repeat (first | (with_reducible first | exact HB.out | apply below_alloc | apply pw_below_drewN | apply below_drew1 | refine below_set ?_ GE148.out | refine below_set ?_ GE158.out | refine below_set ?_ GE172.out) | exact HB.out)⟩
         ·replace c62 := Bool.eq_false_iff.mpr c62
          subst c62
          rw [if_neg (show ¬ (false = true) by decide)] at H
          try dsimp -failIfUnchanged -simprocs only at H
          replace H := Option.bind_eq_some_iff.mp H
          obtain ⟨t174, A630, H⟩ := H
          try dsimp -failIfUnchanged -simprocs only at H
          have A63 := Aside0.mk A630
          clear A630
          by_cases c64 : t174 < 0
          ·rw [if_pos c64] at H
           have c64b0 : decide (t174 < 0) = true := decide_eq_true c64
           clear c64
           obtain rfl := Option.some.inj H
           have hnb65 := NB158_148.out
           have hnc65 := NB148_158.out
           have hnb66 := NB158_172.out
           have hnc66 := NB172_158.out
           obtain ⟨hcz67_0, hcz67_1, hcz67_2, hcz67_3, hcz67_4, hcz67_5⟩ := Sq.c6 BK158.out
           have hfz67_0 := Sq.fz BK158.out
           go_wp2_with (first | ((with_reducible refine gate_callee (f := 8) rfl ?_); refine Sq.goM (some 60) Tryz.func8 #[.agg #[.int .i64 t149, .int .i64 t150, .int .i64 t151, .slice Ao14 t161.length co14, .string t155, .string t156], .int .i64 1] ?_; (with_reducible refine (laws_heldCall.calls kj35 t149 t150 t151 _ _ t161 t155 t156 1 t174 _ ?side1 ?side2 A63.out).mono ?_); (case side1 => repeat (first | exact (Kd.R_reads' HO_159003.out).2.2 | (with_reducible refine Kd.C_alloc ?_ _) | (with_reducible refine Kd.C_drewN ?_ _) | (with_reducible refine Kd.C_drew ?_))); (case side2 => exact (Kd.R_reads' HO_159003.out).2.1); rintro e w68 ⟨rfl, hb⟩; refine ⟨_, rfl, ?_⟩; have n0_ := Aside0.mk (Kd.R_below (by (with_reducible repeat (first | apply Kd.R_alloc | apply Kd.R_drewN | apply Kd.R_drew)); exact HO_149003.out) hb); have n1_ := Aside0.mk (Kd.R_below (by (with_reducible repeat (first | apply Kd.R_alloc | apply Kd.R_drewN | apply Kd.R_drew)); exact HO_159003.out) hb); have n2_ := Aside0.mk (Kd.R_below (by (with_reducible repeat (first | apply Kd.R_alloc | apply Kd.R_drewN | apply Kd.R_drew)); exact HO_173003.out) hb); have n3_ := Aside0.mk (blk_below (g := gb148) (o := .cells #[.int .i64 t139, .int .i64 t140, .int .i64 t141, .slice Ao9 t142.length co9, .string t145, .string t146] 24 (0, 0)) (by exact Sq.bk BK148.out) hb); have n4_ := Aside0.mk (blk_below (g := gb158) (o := .cells #[.int .i64 t149, .int .i64 t150, .int .i64 t151, .slice Ao14 t161.length co14, .string t155, .string t156] 24 (0, 0)) (by exact Sq.bk BK158.out) hb); have n5_ := Aside0.mk (blk_below (g := gb172) (o := .cells #[.int .i64 t163, .int .i64 t164, .int .i64 t165, .slice Ao47 t166.length co47, .string t169, .string t170] 24 (0, 0)) (by exact Sq.bk BK172.out) hb); have n6_ := Aside0.mk (below_step (by repeat (first | (with_reducible first | exact HB.out | apply below_alloc | apply pw_below_drewN | apply below_drew1 | refine below_set ?_ GE148.out | refine below_set ?_ GE158.out | refine below_set ?_ GE172.out) | exact HB.out)) hb); clear HO_149003; clear HO_159003; clear HO_173003; clear BK148; clear BK158; clear BK172; clear HB; have HO_149003 := n0_; have HO_159003 := n1_; have HO_173003 := n2_; have BK148 := n3_; have BK158 := n4_; have BK172 := n5_; have HB := n6_; clear n0_ n1_ n2_ n3_ n4_ n5_ n6_; (try clear hb); (try clear hb2); (try clear hk); (try clear hi)))
           go_ret
           exact ⟨by first | rfl | (simp [errW_none, errW_some] <;> rfl) | (simp [*, errW_none, errW_some] <;> rfl), by repeat (first | (with_reducible first | exact HB.out | apply below_alloc | apply pw_below_drewN | apply below_drew1 | refine below_set ?_ GE148.out | refine below_set ?_ GE158.out | refine below_set ?_ GE172.out) | exact HB.out)⟩
          ·rw [if_neg c64] at H
           have c64b0 : decide (t174 < 0) = false := decide_eq_false c64
           clear c64
           by_cases c69 : t174 = t160
           ·rw [if_pos c69] at H
            have c69b0 : (t174 == t160) = true := beq_iff_eq.mpr c69
            have c69b1 : (t174 != t160) = false := bne_eq_false_iff_eq.mpr c69
            clear c69
            obtain rfl := Option.some.inj H
            have hnb70 := NB158_148.out
            have hnc70 := NB148_158.out
            have hnb71 := NB158_172.out
            have hnc71 := NB172_158.out
            obtain ⟨hcz72_0, hcz72_1, hcz72_2, hcz72_3, hcz72_4, hcz72_5⟩ := Sq.c6 BK158.out
            have hfz72_0 := Sq.fz BK158.out
            go_wp2_with (first | ((with_reducible refine gate_callee (f := 8) rfl ?_); refine Sq.goM (some 60) Tryz.func8 #[.agg #[.int .i64 t149, .int .i64 t150, .int .i64 t151, .slice Ao14 t161.length co14, .string t155, .string t156], .int .i64 1] ?_; (with_reducible refine (laws_heldCall.calls kj35 t149 t150 t151 _ _ t161 t155 t156 1 t174 _ ?side1 ?side2 A63.out).mono ?_); (case side1 => repeat (first | exact (Kd.R_reads' HO_159003.out).2.2 | (with_reducible refine Kd.C_alloc ?_ _) | (with_reducible refine Kd.C_drewN ?_ _) | (with_reducible refine Kd.C_drew ?_))); (case side2 => exact (Kd.R_reads' HO_159003.out).2.1); rintro e w73 ⟨rfl, hb⟩; refine ⟨_, rfl, ?_⟩; have n0_ := Aside0.mk (Kd.R_below (by (with_reducible repeat (first | apply Kd.R_alloc | apply Kd.R_drewN | apply Kd.R_drew)); exact HO_149003.out) hb); have n1_ := Aside0.mk (Kd.R_below (by (with_reducible repeat (first | apply Kd.R_alloc | apply Kd.R_drewN | apply Kd.R_drew)); exact HO_159003.out) hb); have n2_ := Aside0.mk (Kd.R_below (by (with_reducible repeat (first | apply Kd.R_alloc | apply Kd.R_drewN | apply Kd.R_drew)); exact HO_173003.out) hb); have n3_ := Aside0.mk (blk_below (g := gb148) (o := .cells #[.int .i64 t139, .int .i64 t140, .int .i64 t141, .slice Ao9 t142.length co9, .string t145, .string t146] 24 (0, 0)) (by exact Sq.bk BK148.out) hb); have n4_ := Aside0.mk (blk_below (g := gb158) (o := .cells #[.int .i64 t149, .int .i64 t150, .int .i64 t151, .slice Ao14 t161.length co14, .string t155, .string t156] 24 (0, 0)) (by exact Sq.bk BK158.out) hb); have n5_ := Aside0.mk (blk_below (g := gb172) (o := .cells #[.int .i64 t163, .int .i64 t164, .int .i64 t165, .slice Ao47 t166.length co47, .string t169, .string t170] 24 (0, 0)) (by exact Sq.bk BK172.out) hb); have n6_ := Aside0.mk (below_step (by repeat (first | (with_reducible first | exact HB.out | apply below_alloc | apply pw_below_drewN | apply below_drew1 | refine below_set ?_ GE148.out | refine below_set ?_ GE158.out | refine below_set ?_ GE172.out) | exact HB.out)) hb); clear HO_149003; clear HO_159003; clear HO_173003; clear BK148; clear BK158; clear BK172; clear HB; have HO_149003 := n0_; have HO_159003 := n1_; have HO_173003 := n2_; have BK148 := n3_; have BK158 := n4_; have BK172 := n5_; have HB := n6_; clear n0_ n1_ n2_ n3_ n4_ n5_ n6_; (try clear hb); (try clear hb2); (try clear hk); (try clear hi)))
            go_ret
            exact ⟨by first | rfl | (simp [errW_none, errW_some] <;> rfl) | (simp [*, errW_none, errW_some] <;> rfl), by repeat (first | (with_reducible first | exact HB.out | apply below_alloc | apply pw_below_drewN | apply below_drew1 | refine below_set ?_ GE148.out | refine below_set ?_ GE158.out | refine below_set ?_ GE172.out) | exact HB.out)⟩
           ·rw [if_neg c69] at H
            have c69b0 : (t174 == t160) = false := beq_eq_false_iff_ne.mpr c69
            have c69b1 : (t174 != t160) = true := bne_iff_ne.mpr c69
            obtain rfl := Option.some.inj H
            have hnb74 := NB158_148.out
            have hnc74 := NB148_158.out
            have hnb75 := NB158_172.out
            have hnc75 := NB172_158.out
            obtain ⟨hcz76_0, hcz76_1, hcz76_2, hcz76_3, hcz76_4, hcz76_5⟩ := Sq.c6 BK158.out
            have hfz76_0 := Sq.fz BK158.out
            go_wp2_with (first | ((with_reducible refine gate_callee (f := 8) rfl ?_); refine Sq.goM (some 60) Tryz.func8 #[.agg #[.int .i64 t149, .int .i64 t150, .int .i64 t151, .slice Ao14 t161.length co14, .string t155, .string t156], .int .i64 1] ?_; (with_reducible refine (laws_heldCall.calls kj35 t149 t150 t151 _ _ t161 t155 t156 1 t174 _ ?side1 ?side2 A63.out).mono ?_); (case side1 => repeat (first | exact (Kd.R_reads' HO_159003.out).2.2 | (with_reducible refine Kd.C_alloc ?_ _) | (with_reducible refine Kd.C_drewN ?_ _) | (with_reducible refine Kd.C_drew ?_))); (case side2 => exact (Kd.R_reads' HO_159003.out).2.1); rintro e w77 ⟨rfl, hb⟩; refine ⟨_, rfl, ?_⟩; have n0_ := Aside0.mk (Kd.R_below (by (with_reducible repeat (first | apply Kd.R_alloc | apply Kd.R_drewN | apply Kd.R_drew)); exact HO_149003.out) hb); have n1_ := Aside0.mk (Kd.R_below (by (with_reducible repeat (first | apply Kd.R_alloc | apply Kd.R_drewN | apply Kd.R_drew)); exact HO_159003.out) hb); have n2_ := Aside0.mk (Kd.R_below (by (with_reducible repeat (first | apply Kd.R_alloc | apply Kd.R_drewN | apply Kd.R_drew)); exact HO_173003.out) hb); have n3_ := Aside0.mk (blk_below (g := gb148) (o := .cells #[.int .i64 t139, .int .i64 t140, .int .i64 t141, .slice Ao9 t142.length co9, .string t145, .string t146] 24 (0, 0)) (by exact Sq.bk BK148.out) hb); have n4_ := Aside0.mk (blk_below (g := gb158) (o := .cells #[.int .i64 t149, .int .i64 t150, .int .i64 t151, .slice Ao14 t161.length co14, .string t155, .string t156] 24 (0, 0)) (by exact Sq.bk BK158.out) hb); have n5_ := Aside0.mk (blk_below (g := gb172) (o := .cells #[.int .i64 t163, .int .i64 t164, .int .i64 t165, .slice Ao47 t166.length co47, .string t169, .string t170] 24 (0, 0)) (by exact Sq.bk BK172.out) hb); have n6_ := Aside0.mk (below_step (by repeat (first | (with_reducible first | exact HB.out | apply below_alloc | apply pw_below_drewN | apply below_drew1 | refine below_set ?_ GE148.out | refine below_set ?_ GE158.out | refine below_set ?_ GE172.out) | exact HB.out)) hb); clear HO_149003; clear HO_159003; clear HO_173003; clear BK148; clear BK158; clear BK172; clear HB; have HO_149003 := n0_; have HO_159003 := n1_; have HO_173003 := n2_; have BK148 := n3_; have BK158 := n4_; have BK172 := n5_; have HB := n6_; clear n0_ n1_ n2_ n3_ n4_ n5_ n6_; (try clear hb); (try clear hb2); (try clear hk); (try clear hi)))
            go_ret
            exact ⟨by first | rfl | (simp [errW_none, errW_some] <;> rfl) | (simp [*, errW_none, errW_some] <;> rfl), by repeat (first | (with_reducible first | exact HB.out | apply below_alloc | apply pw_below_drewN | apply below_drew1 | refine below_set ?_ GE148.out | refine below_set ?_ GE158.out | refine below_set ?_ GE172.out) | exact HB.out)⟩
      ·rw [if_neg c34] at H
       have c34b0 : (t162 == t160) = false := beq_eq_false_iff_ne.mpr c34
       have c34b1 : (t162 != t160) = true := bne_iff_ne.mpr c34
       obtain rfl := Option.some.inj H
       have hnb78 := NB158_148.out
       have hnc78 := NB148_158.out
       obtain ⟨hcz79_0, hcz79_1, hcz79_2, hcz79_3, hcz79_4, hcz79_5⟩ := Sq.c6 BK158.out
       have hfz79_0 := Sq.fz BK158.out
       go_wp2_with (first | ((with_reducible refine gate_callee (f := 7) rfl ?_); refine Sq.goM (some 35) Tryz.func7 #[.agg #[.int .i64 t149, .int .i64 t150, .int .i64 t151, .slice Ao14 t152.length co14, .string t155, .string t156], .int .i64 1] ?_; (with_reducible refine (laws_markCall.calls kj4 t149 t150 t151 (fun k_ => some k_ = (.slice Ao14 t152.length co14 : Value).ownBlock) (.slice Ao14 t152.length co14) t152 t155 t156 1 t160 t161 w _ ?side1 ?side2 A26.out).mono ?_); (case side1 => repeat (first | (with_reducible first | exact HB.out | apply below_alloc | apply pw_below_drewN | apply below_drew1 | refine below_set ?_ GE148.out | refine below_set ?_ GE158.out) | exact HB.out)); (case side2 => exact Kd.R_tight rfl HO_159003.out); rintro e w80 ⟨rfl, hy0, hb, hkp⟩; refine ⟨_, rfl, ?_⟩; have n0_ := Aside0.mk (Kd.R_mono (ok' := fun k_ => some k_ ≠ (.slice Ao14 t152.length co14 : Value).ownBlock) (Kd.R_keptB (HO_149003.out) hkp (fun k_ hk_ hs_ => (hk_) hs_)) (fun k_ hk_ => hk_.1)); have n1_ := Aside0.mk (Kd.R_reok rfl hy0 (fun k_ e_ => HO_159003.out.1 k_ e_)); have n2_ := Aside0.mk (blk_kept (by exact Sq.bk BK148.out) hkp (fun hs_ => (fun e_ => (Kd.R_ne HO_159003.out BK148.out (by decide)) e_) hs_)); have n3_ := Aside0.mk (blk_kept (by exact Sq.bk BK158.out) hkp (fun hs_ => (fun e_ => (Kd.R_ne HO_159003.out BK158.out (by decide)) e_) hs_)); have n4_ := Aside0.mk (hb); clear HO_149003; clear HO_159003; clear BK148; clear BK158; clear HB; have HO_149003 := n0_; have HO_159003 := n1_; have BK148 := n2_; have BK158 := n3_; have HB := n4_; clear n0_ n1_ n2_ n3_ n4_; (try clear hb); (try clear hkp); (try clear hy0); obtain ⟨hcz81_0, hcz81_1, hcz81_2, hcz81_3, hcz81_4, hcz81_5⟩ := Sq.c6 BK158.out; have hfz81_0 := Sq.fz BK158.out) | ((with_reducible refine gate_callee (f := 8) rfl ?_); refine goesL_ (some 38) rfl rfl Tryz.func8 (by kernel_rfl) rfl #[.agg #[.int .i64 t149, .int .i64 t150, .int .i64 t151, .slice Ao14 t161.length co14, .string t155, .string t156], .int .i64 1] rfl (by (try simp only [List.map_toArray, List.map_cons, List.map_nil]); first | done | (rw [show t161.length = t152.length from (Kd.R_reads' HO_159003.out).1.symm] <;> rfl) | rfl | (simp only [List.length_drop, List.length_take]; rfl)) ?_; (with_reducible refine (laws_heldCall.calls kj4 t149 t150 t151 _ _ t161 t155 t156 1 t162 _ ?side1 ?side2 A27.out).mono ?_); (case side1 => repeat (first | exact (Kd.R_reads' HO_159003.out).2.2 | (with_reducible refine Kd.C_alloc ?_ _) | (with_reducible refine Kd.C_drewN ?_ _) | (with_reducible refine Kd.C_drew ?_))); (case side2 => rw [show t161.length = t152.length from (Kd.R_reads' HO_159003.out).1.symm]; exact (Kd.R_reads' HO_159003.out).2.1); rintro e w82 ⟨rfl, hb⟩; refine ⟨_, rfl, ?_⟩; have n0_ := Aside0.mk (Kd.R_below (by (with_reducible repeat (first | apply Kd.R_alloc | apply Kd.R_drewN | apply Kd.R_drew)); exact HO_149003.out) hb); have n1_ := Aside0.mk (Kd.R_below (by (with_reducible repeat (first | apply Kd.R_alloc | apply Kd.R_drewN | apply Kd.R_drew)); exact HO_159003.out) hb); have n2_ := Aside0.mk (blk_below (g := gb148) (o := .cells #[.int .i64 t139, .int .i64 t140, .int .i64 t141, .slice Ao9 t142.length co9, .string t145, .string t146] 24 (0, 0)) (by exact Sq.bk BK148.out) hb); have n3_ := Aside0.mk (blk_below (g := gb158) (o := .cells #[.int .i64 t149, .int .i64 t150, .int .i64 t151, .slice Ao14 t152.length co14, .string t155, .string t156] 24 (0, 0)) (by exact Sq.bk BK158.out) hb); have n4_ := Aside0.mk (below_step (by repeat (first | (with_reducible first | exact HB.out | apply below_alloc | apply pw_below_drewN | apply below_drew1 | refine below_set ?_ GE148.out | refine below_set ?_ GE158.out) | exact HB.out)) hb); clear HO_149003; clear HO_159003; clear BK148; clear BK158; clear HB; have HO_149003 := n0_; have HO_159003 := n1_; have BK148 := n2_; have BK158 := n3_; have HB := n4_; clear n0_ n1_ n2_ n3_ n4_; (try clear hb); (try clear hb2); (try clear hk); (try clear hi)))
       go_ret
       exact ⟨by first | rfl | (simp [errW_none, errW_some] <;> rfl) | (simp [*, errW_none, errW_some] <;> rfl), by repeat (first | (with_reducible first | exact HB.out | apply below_alloc | apply pw_below_drewN | apply below_drew1 | refine below_set ?_ GE148.out | refine below_set ?_ GE158.out) | exact HB.out)⟩
def laws_FnExactReadCall.Pure : Prop := ∀ (a0 : ByteArray), a0.size ≤ 140737488351232 → ∃ k, laws_FnExactReadCall.f k a0 = some true
theorem laws_FnExactReadCall.walk (P : laws_FnExactReadCall.Pure) (a0 : ByteArray) (w : World) (gw : GW w) (w0 : a0.size ≤ 140737488351232) :
  Calls Tryz.prog 3 #[.string a0] w fun e w' => e = .returned (.bool true) ∧ Below w.heap.size w w' := by
 obtain ⟨k, h⟩ := P a0 w0
 refine (laws_FnExactReadCall.calls k a0 true w gw h).mono ?_
 rintro e w' ⟨rfl, hd⟩
 exact ⟨rfl, hd⟩
end Go.Proofs.YtfjnlliilnmfaaaGreatDoor.PRCl
end
