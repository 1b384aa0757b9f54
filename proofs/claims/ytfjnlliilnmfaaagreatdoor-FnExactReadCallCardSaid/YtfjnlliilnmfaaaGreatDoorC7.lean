/-
  WRITTEN BY wip/tools/prune.py out of this claim's texts: the declarations that the theorem comes to, and no others. In it: Rc.
-/
import Derived.Shelf.Abstract
import Derived.Test.YtfjnlliilnmfaaaGreatDoorC6
section
set_option linter.unusedVariables false
set_option linter.unusedSimpArgs false
namespace Go.Proofs.YtfjnlliilnmfaaaGreatDoor.RC
open Go.RowKit Go.Proofs.YtfjnlliilnmfaaaGreatDoorW.PrintWords Go.Proofs.YtfjnlliilnmfaaaGreatDoorW.PrintLast Go.Proofs.YtfjnlliilnmfaaaGreatDoorW.PrintMore Go.Proofs.YtfjnlliilnmfaaaGreatDoor.Given Go.Proofs.YtfjnlliilnmfaaaGreatDoor.PRCa
def inB (lo hi x : Int) : Bool := decide (lo ≤ x) && decide (x ≤ hi)
theorem l01In_calls (x lo hi : Int) (w : World) : Calls Tryz.prog 37 #[.int .i64 x, .int .i64 lo, .int .i64 hi] w fun e w' => e = .returned (.bool (inB lo hi x)) ∧ Drawn0 w w' := by
 refine spec_l01In.calls x lo hi (inB lo hi x) w ?_
 unfold spec_l01In.f inB
 by_cases h : lo ≤ x
 ·rw [if_pos (by omega)]; simp [h]
 ·rw [if_neg (by omega)]; simp [h]
def cfgK (K : Int) : Bool := K == 6 || K == 8
def pathK (K : Int) : Bool := K == 2 || K == 3 || K == 4 || K == 5
def nameK (K : Int) : Bool := K == 1 || K == 2 || K == 4
def textK (K : Int) : Bool := K == 3 || K == 4 || K == 6 || K == 7
def okB (K D C : Int) (P : List Int) (N T : ByteArray) (t : Bool) : Bool :=
  inB 1 9 K && (inB 0 5 D && (decide (P.length ≤ 10) && (decide (T.size ≤ 4096) && ((if cfgK K then inB 0 3 C else C == 0) && ((pathK K || P.isEmpty) && ((textK K || T.toList == []) && (P.all (inB 0 60) && (if nameK K then t else N.toList == []))))))))
def spec_l10Call.f (k : Nat) (K D C : Int) (P : List Int) (N T : ByteArray) : Option Bool := (spec_l01Tag.f k N).bind fun t => some (okB K D C P N T t)
theorem all_at {p : Int → Bool} {l : List Int} {kk : Nat} (h : kk < l.length) (hp : p (rd l (kk : Int)) = false) : l.all p = false := by
 rw [List.all_eq_false]
 refine ⟨rd l (kk : Int), ?_, by simp [hp]⟩
 unfold rd
 rw [Int.toNat_natCast, List.getD_eq_getElem?_getD, List.getElem?_eq_getElem h]
 exact List.getElem_mem h
theorem all_to {p : Int → Bool} {l : List Int} (h : ∀ j, j < l.length → p (rd l (j : Int)) = true) : l.all p = true := by
 rw [List.all_eq_true]
 intro x hx
 obtain ⟨i, hi, rfl⟩ := List.mem_iff_getElem.1 hx
 have := h i hi
 unfold rd at this
 rwa [Int.toNat_natCast, List.getD_eq_getElem?_getD, List.getElem?_eq_getElem hi] at this
set_option maxHeartbeats 4000000 in
set_option maxRecDepth 100000 in
theorem call_1 (k : Nat) (D C : Int) (A0 : Option Addr) (c0 : Nat) (P : List Int) (N T : ByteArray) (t : Bool) (w : World) (hr : Kd.C (Kd.int .i64) w A0 P.length P) (ht : spec_l01Tag.f k N = some t) :
  Calls Tryz.prog 20 #[.agg #[.int .i64 1, .int .i64 D, .int .i64 C, .slice A0 P.length c0, .string N, .string T]] w fun e w' => e = .returned (.bool (okB 1 D C P N T t)) ∧ Below w.heap.size w w' := by
 have hu24 := Tryz.underlying24
 have HR := Aside0.mk hr
 have HT := Aside0.mk ht
 have hbig : P.length ≤ 9223372036854775807 := Kd.C_max hr
 clear hr ht
 have i19 : inB 1 9 1 = true := rfl
 cases i05 : inB 0 5 D
 case false =>
  go_enter Tryz.func20, Tryz.ntmps20
  go_wp2_with (first | ((with_reducible refine gate_dst (N := 1) rfl ?_); refine box_event ?hg (N := 1) ?hd (cs := #[.int .i64 1, .int .i64 D, .int .i64 C, .slice A0 P.length c0, .string N, .string T]) (t := 24) ?hr ?_; (case hd => rfl); (case hg => rfl); (case hr => first | (go_simp; done) | (go_simp; rfl)); intro gb hg w5 hbox hb; have BK := Aside0.mk hbox; have HB := Aside0.mk hb; obtain ⟨hz0, hz1, hz2, hz3, hz4, hz5⟩ := Sq.c6 hbox; clear hb hbox hg) | (go_at_call 37; refine (l01In_calls _ _ _ _).mono ?_; rintro e w' ⟨rfl, ⟨q_, rfl⟩⟩) | (go_at_call 38; refine (spec_l01Tag.calls k _ _ _ HT.out).mono ?_; rintro e w' ⟨rfl, ⟨q_, rfl⟩⟩))
  go_ret
  exact ⟨by first | rfl | (simp [okB, cfgK, pathK, nameK, textK, *]; done), by repeat (first | exact HB.out | apply pw_below_drewN | apply below_drew1)⟩
 by_cases c10 : P.length ≤ 10
 case neg =>
  have d1 : decide ((10 : Int) < (P.length : Int)) = true := decide_eq_true (by omega)
  have d2 : decide (10 < P.length) = true := decide_eq_true (by omega)
  go_enter Tryz.func20, Tryz.ntmps20
  go_wp2_with (first | ((with_reducible refine gate_dst (N := 1) rfl ?_); refine box_event ?hg (N := 1) ?hd (cs := #[.int .i64 1, .int .i64 D, .int .i64 C, .slice A0 P.length c0, .string N, .string T]) (t := 24) ?hr ?_; (case hd => rfl); (case hg => rfl); (case hr => first | (go_simp; done) | (go_simp; rfl)); intro gb hg w5 hbox hb; have BK := Aside0.mk hbox; have HB := Aside0.mk hb; obtain ⟨hz0, hz1, hz2, hz3, hz4, hz5⟩ := Sq.c6 hbox; clear hb hbox hg) | (go_at_call 37; refine (l01In_calls _ _ _ _).mono ?_; rintro e w' ⟨rfl, ⟨q_, rfl⟩⟩) | (go_at_call 38; refine (spec_l01Tag.calls k _ _ _ HT.out).mono ?_; rintro e w' ⟨rfl, ⟨q_, rfl⟩⟩))
  go_ret
  exact ⟨by first | rfl | (simp [okB, cfgK, pathK, nameK, textK, *]; done), by repeat (first | exact HB.out | apply pw_below_drewN | apply below_drew1)⟩
 have d1 : decide ((10 : Int) < (P.length : Int)) = false := decide_eq_false (by omega)
 have d2 : decide (10 < P.length) = false := decide_eq_false (by omega)
 by_cases c40 : T.size ≤ 4096
 case neg =>
  have d3 : decide ((4096 : Int) < (T.size : Int)) = true := decide_eq_true (by omega)
  have d4 : decide (4096 < T.size) = true := decide_eq_true (by omega)
  go_enter Tryz.func20, Tryz.ntmps20
  go_wp2_with (first | ((with_reducible refine gate_dst (N := 1) rfl ?_); refine box_event ?hg (N := 1) ?hd (cs := #[.int .i64 1, .int .i64 D, .int .i64 C, .slice A0 P.length c0, .string N, .string T]) (t := 24) ?hr ?_; (case hd => rfl); (case hg => rfl); (case hr => first | (go_simp; done) | (go_simp; rfl)); intro gb hg w5 hbox hb; have BK := Aside0.mk hbox; have HB := Aside0.mk hb; obtain ⟨hz0, hz1, hz2, hz3, hz4, hz5⟩ := Sq.c6 hbox; clear hb hbox hg) | (go_at_call 37; refine (l01In_calls _ _ _ _).mono ?_; rintro e w' ⟨rfl, ⟨q_, rfl⟩⟩) | (go_at_call 38; refine (spec_l01Tag.calls k _ _ _ HT.out).mono ?_; rintro e w' ⟨rfl, ⟨q_, rfl⟩⟩))
  go_ret
  exact ⟨by first | rfl | (simp [okB, cfgK, pathK, nameK, textK, *]; done), by repeat (first | exact HB.out | apply pw_below_drewN | apply below_drew1)⟩
 have d3 : decide ((4096 : Int) < (T.size : Int)) = false := decide_eq_false (by omega)
 have d4 : decide (4096 < T.size) = false := decide_eq_false (by omega)
 cases i03 : C == 0
 case false =>
  have i03' : (C != 0) = true := by rw [bne, i03]; rfl
  go_enter Tryz.func20, Tryz.ntmps20
  go_wp2_with (first | ((with_reducible refine gate_dst (N := 1) rfl ?_); refine box_event ?hg (N := 1) ?hd (cs := #[.int .i64 1, .int .i64 D, .int .i64 C, .slice A0 P.length c0, .string N, .string T]) (t := 24) ?hr ?_; (case hd => rfl); (case hg => rfl); (case hr => first | (go_simp; done) | (go_simp; rfl)); intro gb hg w5 hbox hb; have BK := Aside0.mk hbox; have HB := Aside0.mk hb; obtain ⟨hz0, hz1, hz2, hz3, hz4, hz5⟩ := Sq.c6 hbox; clear hb hbox hg) | (go_at_call 37; refine (l01In_calls _ _ _ _).mono ?_; rintro e w' ⟨rfl, ⟨q_, rfl⟩⟩) | (go_at_call 38; refine (spec_l01Tag.calls k _ _ _ HT.out).mono ?_; rintro e w' ⟨rfl, ⟨q_, rfl⟩⟩))
  go_ret
  exact ⟨by first | rfl | (simp [okB, cfgK, pathK, nameK, textK, *]; done), by repeat (first | exact HB.out | apply pw_below_drewN | apply below_drew1)⟩
 have i03' : (C != 0) = false := by rw [bne, i03]; rfl
 by_cases c0p : P.length ≤ 0
 case neg =>
  have d5 : decide ((0 : Int) < (P.length : Int)) = true := decide_eq_true (by omega)
  have d6 : decide (0 < P.length) = true := decide_eq_true (by omega)
  have d7 : P.isEmpty = false := by cases P with | nil => simp at c0p | cons _ _ => rfl
  go_enter Tryz.func20, Tryz.ntmps20
  go_wp2_with (first | ((with_reducible refine gate_dst (N := 1) rfl ?_); refine box_event ?hg (N := 1) ?hd (cs := #[.int .i64 1, .int .i64 D, .int .i64 C, .slice A0 P.length c0, .string N, .string T]) (t := 24) ?hr ?_; (case hd => rfl); (case hg => rfl); (case hr => first | (go_simp; done) | (go_simp; rfl)); intro gb hg w5 hbox hb; have BK := Aside0.mk hbox; have HB := Aside0.mk hb; obtain ⟨hz0, hz1, hz2, hz3, hz4, hz5⟩ := Sq.c6 hbox; clear hb hbox hg) | (go_at_call 37; refine (l01In_calls _ _ _ _).mono ?_; rintro e w' ⟨rfl, ⟨q_, rfl⟩⟩) | (go_at_call 38; refine (spec_l01Tag.calls k _ _ _ HT.out).mono ?_; rintro e w' ⟨rfl, ⟨q_, rfl⟩⟩))
  go_ret
  exact ⟨by first | rfl | (simp [okB, cfgK, pathK, nameK, textK, *]; done), by repeat (first | exact HB.out | apply pw_below_drewN | apply below_drew1)⟩
 have d5 : decide ((0 : Int) < (P.length : Int)) = false := decide_eq_false (by omega)
 have d6 : decide (0 < P.length) = false := decide_eq_false (by omega)
 have d7 : P.isEmpty = true := by cases P with | nil => rfl | cons _ _ => simp at c0p
 cases e5 : (T.toList == ([] : List UInt8))
 case false =>
  have e6 : (T.toList != ([] : List UInt8)) = true := by rw [bne, e5]; rfl
  have e7 : T.toList.isEmpty = false := by cases h : T.toList with | nil => rw [h] at e5; cases e5 | cons _ _ => rfl
  go_enter Tryz.func20, Tryz.ntmps20
  go_wp2_with (first | ((with_reducible refine gate_dst (N := 1) rfl ?_); refine box_event ?hg (N := 1) ?hd (cs := #[.int .i64 1, .int .i64 D, .int .i64 C, .slice A0 P.length c0, .string N, .string T]) (t := 24) ?hr ?_; (case hd => rfl); (case hg => rfl); (case hr => first | (go_simp; done) | (go_simp; rfl)); intro gb hg w5 hbox hb; have BK := Aside0.mk hbox; have HB := Aside0.mk hb; obtain ⟨hz0, hz1, hz2, hz3, hz4, hz5⟩ := Sq.c6 hbox; clear hb hbox hg) | (go_at_call 37; refine (l01In_calls _ _ _ _).mono ?_; rintro e w' ⟨rfl, ⟨q_, rfl⟩⟩) | (go_at_call 38; refine (spec_l01Tag.calls k _ _ _ HT.out).mono ?_; rintro e w' ⟨rfl, ⟨q_, rfl⟩⟩))
  go_ret
  exact ⟨by first | rfl | (simp [okB, cfgK, pathK, nameK, textK, *]; done), by repeat (first | exact HB.out | apply pw_below_drewN | apply below_drew1)⟩
 have e6 : (T.toList != ([] : List UInt8)) = false := by rw [bne, e5]; rfl
 have e7 : T.toList.isEmpty = true := by cases h : T.toList with | nil => rfl | cons _ _ => rw [h] at e5; cases e5
 go_enter Tryz.func20, Tryz.ntmps20
 go_wp2_with (first | ((with_reducible refine gate_dst (N := 1) rfl ?_); refine box_event ?hg (N := 1) ?hd (cs := #[.int .i64 1, .int .i64 D, .int .i64 C, .slice A0 P.length c0, .string N, .string T]) (t := 24) ?hr ?_; (case hd => rfl); (case hg => rfl); (case hr => first | (go_simp; done) | (go_simp; rfl)); intro gb hg w5 hbox hb; have BK := Aside0.mk hbox; have HB := Aside0.mk hb; obtain ⟨hz0, hz1, hz2, hz3, hz4, hz5⟩ := Sq.c6 hbox; clear hb hbox hg) | (go_at_call 37; refine (l01In_calls _ _ _ _).mono ?_; rintro e w' ⟨rfl, ⟨q_, rfl⟩⟩) | (go_at_call 38; refine (spec_l01Tag.calls k _ _ _ HT.out).mono ?_; rintro e w' ⟨rfl, ⟨q_, rfl⟩⟩))
 go_loopg [7] P.length (fun gg s7 wr => ∃ kk : Nat, kk ≤ P.length ∧ P.length - kk ≤ gg ∧ s7 = .int .i64 kk ∧ Drawn0 w5 wr ∧ Aside0 (∀ j, j < kk → inB 0 60 (rd P (j : Int)) = true))
 case atStart => exact ⟨0, Nat.zero_le _, by omega, rfl, by repeat (first | exact Drawn0.refl _ | apply Drawn0.step), ⟨fun j hj => absurd hj (Nat.not_lt_zero _)⟩⟩
 case round =>
  obtain ⟨kk, hkk, hg, rfl, ⟨q, rfl⟩, A0⟩ := hrel
  by_cases hlt : kk < P.length
  ·have hltz : (kk : Int) < (P.length : Int) := by omega
   have z1 : decide ((kk : Int) < (P.length : Int)) = true := decide_eq_true hltz
   have z2 : decide (kk < P.length) = true := decide_eq_true hlt
   exact absurd hlt (by omega)
  ·have z1 : decide ((kk : Int) < (P.length : Int)) = false := decide_eq_false (by omega)
   have z2 : decide (kk < P.length) = false := decide_eq_false hlt
   have hkl : kk = P.length := by omega
   subst hkl
   have h9 : P.all (inB 0 60) = true := all_to A0.out
   clear A0
   cases t
   ·go_wp2_with (first | ((with_reducible refine gate_dst (N := 1) rfl ?_); refine box_event ?hg (N := 1) ?hd (cs := #[.int .i64 1, .int .i64 D, .int .i64 C, .slice A0 P.length c0, .string N, .string T]) (t := 24) ?hr ?_; (case hd => rfl); (case hg => rfl); (case hr => first | (go_simp; done) | (go_simp; rfl)); intro gb hg w5 hbox hb; have BK := Aside0.mk hbox; have HB := Aside0.mk hb; obtain ⟨hz0, hz1, hz2, hz3, hz4, hz5⟩ := Sq.c6 hbox; clear hb hbox hg) | (go_at_call 37; refine (l01In_calls _ _ _ _).mono ?_; rintro e w' ⟨rfl, ⟨q_, rfl⟩⟩) | (go_at_call 38; refine (spec_l01Tag.calls k _ _ _ HT.out).mono ?_; rintro e w' ⟨rfl, ⟨q_, rfl⟩⟩))
    go_ret
    exact ⟨by first | rfl | (simp [okB, cfgK, pathK, nameK, textK, *]; done), by repeat (first | exact HB.out | apply pw_below_drewN | apply below_drew1)⟩
   ·go_wp2_with (first | ((with_reducible refine gate_dst (N := 1) rfl ?_); refine box_event ?hg (N := 1) ?hd (cs := #[.int .i64 1, .int .i64 D, .int .i64 C, .slice A0 P.length c0, .string N, .string T]) (t := 24) ?hr ?_; (case hd => rfl); (case hg => rfl); (case hr => first | (go_simp; done) | (go_simp; rfl)); intro gb hg w5 hbox hb; have BK := Aside0.mk hbox; have HB := Aside0.mk hb; obtain ⟨hz0, hz1, hz2, hz3, hz4, hz5⟩ := Sq.c6 hbox; clear hb hbox hg) | (go_at_call 37; refine (l01In_calls _ _ _ _).mono ?_; rintro e w' ⟨rfl, ⟨q_, rfl⟩⟩) | (go_at_call 38; refine (spec_l01Tag.calls k _ _ _ HT.out).mono ?_; rintro e w' ⟨rfl, ⟨q_, rfl⟩⟩))
    go_ret
    exact ⟨by first | rfl | (simp [okB, cfgK, pathK, nameK, textK, *]; done), by repeat (first | exact HB.out | apply pw_below_drewN | apply below_drew1)⟩
set_option maxHeartbeats 4000000 in
set_option maxRecDepth 100000 in
theorem call_2 (k : Nat) (D C : Int) (A0 : Option Addr) (c0 : Nat) (P : List Int) (N T : ByteArray) (t : Bool) (w : World) (hr : Kd.C (Kd.int .i64) w A0 P.length P) (ht : spec_l01Tag.f k N = some t) :
  Calls Tryz.prog 20 #[.agg #[.int .i64 2, .int .i64 D, .int .i64 C, .slice A0 P.length c0, .string N, .string T]] w fun e w' => e = .returned (.bool (okB 2 D C P N T t)) ∧ Below w.heap.size w w' := by
 have hu24 := Tryz.underlying24
 have HR := Aside0.mk hr
 have HT := Aside0.mk ht
 have hbig : P.length ≤ 9223372036854775807 := Kd.C_max hr
 clear hr ht
 have i19 : inB 1 9 2 = true := rfl
 cases i05 : inB 0 5 D
 case false =>
  go_enter Tryz.func20, Tryz.ntmps20
  go_wp2_with (first | ((with_reducible refine gate_dst (N := 1) rfl ?_); refine box_event ?hg (N := 1) ?hd (cs := #[.int .i64 2, .int .i64 D, .int .i64 C, .slice A0 P.length c0, .string N, .string T]) (t := 24) ?hr ?_; (case hd => rfl); (case hg => rfl); (case hr => first | (go_simp; done) | (go_simp; rfl)); intro gb hg w5 hbox hb; have BK := Aside0.mk hbox; have HB := Aside0.mk hb; obtain ⟨hz0, hz1, hz2, hz3, hz4, hz5⟩ := Sq.c6 hbox; clear hb hbox hg) | (go_at_call 37; refine (l01In_calls _ _ _ _).mono ?_; rintro e w' ⟨rfl, ⟨q_, rfl⟩⟩) | (go_at_call 38; refine (spec_l01Tag.calls k _ _ _ HT.out).mono ?_; rintro e w' ⟨rfl, ⟨q_, rfl⟩⟩))
  go_ret
  exact ⟨by first | rfl | (simp [okB, cfgK, pathK, nameK, textK, *]; done), by repeat (first | exact HB.out | apply pw_below_drewN | apply below_drew1)⟩
 by_cases c10 : P.length ≤ 10
 case neg =>
  have d1 : decide ((10 : Int) < (P.length : Int)) = true := decide_eq_true (by omega)
  have d2 : decide (10 < P.length) = true := decide_eq_true (by omega)
  go_enter Tryz.func20, Tryz.ntmps20
  go_wp2_with (first | ((with_reducible refine gate_dst (N := 1) rfl ?_); refine box_event ?hg (N := 1) ?hd (cs := #[.int .i64 2, .int .i64 D, .int .i64 C, .slice A0 P.length c0, .string N, .string T]) (t := 24) ?hr ?_; (case hd => rfl); (case hg => rfl); (case hr => first | (go_simp; done) | (go_simp; rfl)); intro gb hg w5 hbox hb; have BK := Aside0.mk hbox; have HB := Aside0.mk hb; obtain ⟨hz0, hz1, hz2, hz3, hz4, hz5⟩ := Sq.c6 hbox; clear hb hbox hg) | (go_at_call 37; refine (l01In_calls _ _ _ _).mono ?_; rintro e w' ⟨rfl, ⟨q_, rfl⟩⟩) | (go_at_call 38; refine (spec_l01Tag.calls k _ _ _ HT.out).mono ?_; rintro e w' ⟨rfl, ⟨q_, rfl⟩⟩))
  go_ret
  exact ⟨by first | rfl | (simp [okB, cfgK, pathK, nameK, textK, *]; done), by repeat (first | exact HB.out | apply pw_below_drewN | apply below_drew1)⟩
 have d1 : decide ((10 : Int) < (P.length : Int)) = false := decide_eq_false (by omega)
 have d2 : decide (10 < P.length) = false := decide_eq_false (by omega)
 by_cases c40 : T.size ≤ 4096
 case neg =>
  have d3 : decide ((4096 : Int) < (T.size : Int)) = true := decide_eq_true (by omega)
  have d4 : decide (4096 < T.size) = true := decide_eq_true (by omega)
  go_enter Tryz.func20, Tryz.ntmps20
  go_wp2_with (first | ((with_reducible refine gate_dst (N := 1) rfl ?_); refine box_event ?hg (N := 1) ?hd (cs := #[.int .i64 2, .int .i64 D, .int .i64 C, .slice A0 P.length c0, .string N, .string T]) (t := 24) ?hr ?_; (case hd => rfl); (case hg => rfl); (case hr => first | (go_simp; done) | (go_simp; rfl)); intro gb hg w5 hbox hb; have BK := Aside0.mk hbox; have HB := Aside0.mk hb; obtain ⟨hz0, hz1, hz2, hz3, hz4, hz5⟩ := Sq.c6 hbox; clear hb hbox hg) | (go_at_call 37; refine (l01In_calls _ _ _ _).mono ?_; rintro e w' ⟨rfl, ⟨q_, rfl⟩⟩) | (go_at_call 38; refine (spec_l01Tag.calls k _ _ _ HT.out).mono ?_; rintro e w' ⟨rfl, ⟨q_, rfl⟩⟩))
  go_ret
  exact ⟨by first | rfl | (simp [okB, cfgK, pathK, nameK, textK, *]; done), by repeat (first | exact HB.out | apply pw_below_drewN | apply below_drew1)⟩
 have d3 : decide ((4096 : Int) < (T.size : Int)) = false := decide_eq_false (by omega)
 have d4 : decide (4096 < T.size) = false := decide_eq_false (by omega)
 cases i03 : C == 0
 case false =>
  have i03' : (C != 0) = true := by rw [bne, i03]; rfl
  go_enter Tryz.func20, Tryz.ntmps20
  go_wp2_with (first | ((with_reducible refine gate_dst (N := 1) rfl ?_); refine box_event ?hg (N := 1) ?hd (cs := #[.int .i64 2, .int .i64 D, .int .i64 C, .slice A0 P.length c0, .string N, .string T]) (t := 24) ?hr ?_; (case hd => rfl); (case hg => rfl); (case hr => first | (go_simp; done) | (go_simp; rfl)); intro gb hg w5 hbox hb; have BK := Aside0.mk hbox; have HB := Aside0.mk hb; obtain ⟨hz0, hz1, hz2, hz3, hz4, hz5⟩ := Sq.c6 hbox; clear hb hbox hg) | (go_at_call 37; refine (l01In_calls _ _ _ _).mono ?_; rintro e w' ⟨rfl, ⟨q_, rfl⟩⟩) | (go_at_call 38; refine (spec_l01Tag.calls k _ _ _ HT.out).mono ?_; rintro e w' ⟨rfl, ⟨q_, rfl⟩⟩))
  go_ret
  exact ⟨by first | rfl | (simp [okB, cfgK, pathK, nameK, textK, *]; done), by repeat (first | exact HB.out | apply pw_below_drewN | apply below_drew1)⟩
 have i03' : (C != 0) = false := by rw [bne, i03]; rfl
 cases e5 : (T.toList == ([] : List UInt8))
 case false =>
  have e6 : (T.toList != ([] : List UInt8)) = true := by rw [bne, e5]; rfl
  have e7 : T.toList.isEmpty = false := by cases h : T.toList with | nil => rw [h] at e5; cases e5 | cons _ _ => rfl
  go_enter Tryz.func20, Tryz.ntmps20
  go_wp2_with (first | ((with_reducible refine gate_dst (N := 1) rfl ?_); refine box_event ?hg (N := 1) ?hd (cs := #[.int .i64 2, .int .i64 D, .int .i64 C, .slice A0 P.length c0, .string N, .string T]) (t := 24) ?hr ?_; (case hd => rfl); (case hg => rfl); (case hr => first | (go_simp; done) | (go_simp; rfl)); intro gb hg w5 hbox hb; have BK := Aside0.mk hbox; have HB := Aside0.mk hb; obtain ⟨hz0, hz1, hz2, hz3, hz4, hz5⟩ := Sq.c6 hbox; clear hb hbox hg) | (go_at_call 37; refine (l01In_calls _ _ _ _).mono ?_; rintro e w' ⟨rfl, ⟨q_, rfl⟩⟩) | (go_at_call 38; refine (spec_l01Tag.calls k _ _ _ HT.out).mono ?_; rintro e w' ⟨rfl, ⟨q_, rfl⟩⟩))
  go_ret
  exact ⟨by first | rfl | (simp [okB, cfgK, pathK, nameK, textK, *]; done), by repeat (first | exact HB.out | apply pw_below_drewN | apply below_drew1)⟩
 have e6 : (T.toList != ([] : List UInt8)) = false := by rw [bne, e5]; rfl
 have e7 : T.toList.isEmpty = true := by cases h : T.toList with | nil => rfl | cons _ _ => rw [h] at e5; cases e5
 go_enter Tryz.func20, Tryz.ntmps20
 go_wp2_with (first | ((with_reducible refine gate_dst (N := 1) rfl ?_); refine box_event ?hg (N := 1) ?hd (cs := #[.int .i64 2, .int .i64 D, .int .i64 C, .slice A0 P.length c0, .string N, .string T]) (t := 24) ?hr ?_; (case hd => rfl); (case hg => rfl); (case hr => first | (go_simp; done) | (go_simp; rfl)); intro gb hg w5 hbox hb; have BK := Aside0.mk hbox; have HB := Aside0.mk hb; obtain ⟨hz0, hz1, hz2, hz3, hz4, hz5⟩ := Sq.c6 hbox; clear hb hbox hg) | (go_at_call 37; refine (l01In_calls _ _ _ _).mono ?_; rintro e w' ⟨rfl, ⟨q_, rfl⟩⟩) | (go_at_call 38; refine (spec_l01Tag.calls k _ _ _ HT.out).mono ?_; rintro e w' ⟨rfl, ⟨q_, rfl⟩⟩))
 go_loopg [7] P.length (fun gg s7 wr => ∃ kk : Nat, kk ≤ P.length ∧ P.length - kk ≤ gg ∧ s7 = .int .i64 kk ∧ Drawn0 w5 wr ∧ Aside0 (∀ j, j < kk → inB 0 60 (rd P (j : Int)) = true))
 case atStart => exact ⟨0, Nat.zero_le _, by omega, rfl, by repeat (first | exact Drawn0.refl _ | apply Drawn0.step), ⟨fun j hj => absurd hj (Nat.not_lt_zero _)⟩⟩
 case round =>
  obtain ⟨kk, hkk, hg, rfl, ⟨q, rfl⟩, A0⟩ := hrel
  by_cases hlt : kk < P.length
  ·have hltz : (kk : Int) < (P.length : Int) := by omega
   have z1 : decide ((kk : Int) < (P.length : Int)) = true := decide_eq_true hltz
   have z2 : decide (kk < P.length) = true := decide_eq_true hlt
   obtain ⟨ad, e1, hcell⟩ := Kd.at_int (Kd.C_below HR.out HB.out) (kk : Int) (by omega) hltz
   cases e1
   simp only [Int.toNat_natCast] at hcell
   have B := Aside0.mk (fun h => all_at (p := inB 0 60) hlt h)
   have B2 := Aside0.mk (fun h (j : Nat) (hj : j < kk + 1) => if e : j = kk then (by rw [e]; exact h : inB 0 60 (rd P (j : Int)) = true) else A0.out j (by omega))
   generalize hy : rd P (kk : Int) = y at hcell B B2
   clear hy
   cases hq : inB 0 60 y with
   | false =>
    have h9 : P.all (inB 0 60) = false := B.out hq
    go_wp2_with (first | ((with_reducible refine gate_dst (N := 1) rfl ?_); refine box_event ?hg (N := 1) ?hd (cs := #[.int .i64 2, .int .i64 D, .int .i64 C, .slice A0 P.length c0, .string N, .string T]) (t := 24) ?hr ?_; (case hd => rfl); (case hg => rfl); (case hr => first | (go_simp; done) | (go_simp; rfl)); intro gb hg w5 hbox hb; have BK := Aside0.mk hbox; have HB := Aside0.mk hb; obtain ⟨hz0, hz1, hz2, hz3, hz4, hz5⟩ := Sq.c6 hbox; clear hb hbox hg) | (go_at_call 37; refine (l01In_calls _ _ _ _).mono ?_; rintro e w' ⟨rfl, ⟨q_, rfl⟩⟩) | (go_at_call 38; refine (spec_l01Tag.calls k _ _ _ HT.out).mono ?_; rintro e w' ⟨rfl, ⟨q_, rfl⟩⟩))
    go_ret
    exact ⟨by first | rfl | (simp [okB, cfgK, pathK, nameK, textK, *]; done), by repeat (first | exact HB.out | apply pw_below_drewN | apply below_drew1)⟩
   | true =>
    have B3 := Aside0.mk (B2.out hq)
    clear B B2 A0
    go_wp2_with (first | ((with_reducible refine gate_dst (N := 1) rfl ?_); refine box_event ?hg (N := 1) ?hd (cs := #[.int .i64 2, .int .i64 D, .int .i64 C, .slice A0 P.length c0, .string N, .string T]) (t := 24) ?hr ?_; (case hd => rfl); (case hg => rfl); (case hr => first | (go_simp; done) | (go_simp; rfl)); intro gb hg w5 hbox hb; have BK := Aside0.mk hbox; have HB := Aside0.mk hb; obtain ⟨hz0, hz1, hz2, hz3, hz4, hz5⟩ := Sq.c6 hbox; clear hb hbox hg) | (go_at_call 37; refine (l01In_calls _ _ _ _).mono ?_; rintro e w' ⟨rfl, ⟨q_, rfl⟩⟩) | (go_at_call 38; refine (spec_l01Tag.calls k _ _ _ HT.out).mono ?_; rintro e w' ⟨rfl, ⟨q_, rfl⟩⟩))
    go_roundg (P.length - (kk + 1))
    case measure => omega
    case rel => exact ⟨kk + 1, by omega, by omega, (by first | rfl | (refine congrArg _ ?_; omega) | (simp; omega)), by repeat (first | exact Drawn0.refl _ | exact ⟨_, rfl⟩ | apply Drawn0.step), B3⟩
  ·have z1 : decide ((kk : Int) < (P.length : Int)) = false := decide_eq_false (by omega)
   have z2 : decide (kk < P.length) = false := decide_eq_false hlt
   have hkl : kk = P.length := by omega
   subst hkl
   have h9 : P.all (inB 0 60) = true := all_to A0.out
   clear A0
   cases t
   ·go_wp2_with (first | ((with_reducible refine gate_dst (N := 1) rfl ?_); refine box_event ?hg (N := 1) ?hd (cs := #[.int .i64 2, .int .i64 D, .int .i64 C, .slice A0 P.length c0, .string N, .string T]) (t := 24) ?hr ?_; (case hd => rfl); (case hg => rfl); (case hr => first | (go_simp; done) | (go_simp; rfl)); intro gb hg w5 hbox hb; have BK := Aside0.mk hbox; have HB := Aside0.mk hb; obtain ⟨hz0, hz1, hz2, hz3, hz4, hz5⟩ := Sq.c6 hbox; clear hb hbox hg) | (go_at_call 37; refine (l01In_calls _ _ _ _).mono ?_; rintro e w' ⟨rfl, ⟨q_, rfl⟩⟩) | (go_at_call 38; refine (spec_l01Tag.calls k _ _ _ HT.out).mono ?_; rintro e w' ⟨rfl, ⟨q_, rfl⟩⟩))
    go_ret
    exact ⟨by first | rfl | (simp [okB, cfgK, pathK, nameK, textK, *]; done), by repeat (first | exact HB.out | apply pw_below_drewN | apply below_drew1)⟩
   ·go_wp2_with (first | ((with_reducible refine gate_dst (N := 1) rfl ?_); refine box_event ?hg (N := 1) ?hd (cs := #[.int .i64 2, .int .i64 D, .int .i64 C, .slice A0 P.length c0, .string N, .string T]) (t := 24) ?hr ?_; (case hd => rfl); (case hg => rfl); (case hr => first | (go_simp; done) | (go_simp; rfl)); intro gb hg w5 hbox hb; have BK := Aside0.mk hbox; have HB := Aside0.mk hb; obtain ⟨hz0, hz1, hz2, hz3, hz4, hz5⟩ := Sq.c6 hbox; clear hb hbox hg) | (go_at_call 37; refine (l01In_calls _ _ _ _).mono ?_; rintro e w' ⟨rfl, ⟨q_, rfl⟩⟩) | (go_at_call 38; refine (spec_l01Tag.calls k _ _ _ HT.out).mono ?_; rintro e w' ⟨rfl, ⟨q_, rfl⟩⟩))
    go_ret
    exact ⟨by first | rfl | (simp [okB, cfgK, pathK, nameK, textK, *]; done), by repeat (first | exact HB.out | apply pw_below_drewN | apply below_drew1)⟩
set_option maxHeartbeats 4000000 in
set_option maxRecDepth 100000 in
theorem call_3 (k : Nat) (D C : Int) (A0 : Option Addr) (c0 : Nat) (P : List Int) (N T : ByteArray) (t : Bool) (w : World) (hr : Kd.C (Kd.int .i64) w A0 P.length P) (ht : spec_l01Tag.f k N = some t) :
  Calls Tryz.prog 20 #[.agg #[.int .i64 3, .int .i64 D, .int .i64 C, .slice A0 P.length c0, .string N, .string T]] w fun e w' => e = .returned (.bool (okB 3 D C P N T t)) ∧ Below w.heap.size w w' := by
 have hu24 := Tryz.underlying24
 have HR := Aside0.mk hr
 have HT := Aside0.mk ht
 have hbig : P.length ≤ 9223372036854775807 := Kd.C_max hr
 clear hr ht
 have i19 : inB 1 9 3 = true := rfl
 cases i05 : inB 0 5 D
 case false =>
  go_enter Tryz.func20, Tryz.ntmps20
  go_wp2_with (first | ((with_reducible refine gate_dst (N := 1) rfl ?_); refine box_event ?hg (N := 1) ?hd (cs := #[.int .i64 3, .int .i64 D, .int .i64 C, .slice A0 P.length c0, .string N, .string T]) (t := 24) ?hr ?_; (case hd => rfl); (case hg => rfl); (case hr => first | (go_simp; done) | (go_simp; rfl)); intro gb hg w5 hbox hb; have BK := Aside0.mk hbox; have HB := Aside0.mk hb; obtain ⟨hz0, hz1, hz2, hz3, hz4, hz5⟩ := Sq.c6 hbox; clear hb hbox hg) | (go_at_call 37; refine (l01In_calls _ _ _ _).mono ?_; rintro e w' ⟨rfl, ⟨q_, rfl⟩⟩) | (go_at_call 38; refine (spec_l01Tag.calls k _ _ _ HT.out).mono ?_; rintro e w' ⟨rfl, ⟨q_, rfl⟩⟩))
  go_ret
  exact ⟨by first | rfl | (simp [okB, cfgK, pathK, nameK, textK, *]; done), by repeat (first | exact HB.out | apply pw_below_drewN | apply below_drew1)⟩
 by_cases c10 : P.length ≤ 10
 case neg =>
  have d1 : decide ((10 : Int) < (P.length : Int)) = true := decide_eq_true (by omega)
  have d2 : decide (10 < P.length) = true := decide_eq_true (by omega)
  go_enter Tryz.func20, Tryz.ntmps20
  go_wp2_with (first | ((with_reducible refine gate_dst (N := 1) rfl ?_); refine box_event ?hg (N := 1) ?hd (cs := #[.int .i64 3, .int .i64 D, .int .i64 C, .slice A0 P.length c0, .string N, .string T]) (t := 24) ?hr ?_; (case hd => rfl); (case hg => rfl); (case hr => first | (go_simp; done) | (go_simp; rfl)); intro gb hg w5 hbox hb; have BK := Aside0.mk hbox; have HB := Aside0.mk hb; obtain ⟨hz0, hz1, hz2, hz3, hz4, hz5⟩ := Sq.c6 hbox; clear hb hbox hg) | (go_at_call 37; refine (l01In_calls _ _ _ _).mono ?_; rintro e w' ⟨rfl, ⟨q_, rfl⟩⟩) | (go_at_call 38; refine (spec_l01Tag.calls k _ _ _ HT.out).mono ?_; rintro e w' ⟨rfl, ⟨q_, rfl⟩⟩))
  go_ret
  exact ⟨by first | rfl | (simp [okB, cfgK, pathK, nameK, textK, *]; done), by repeat (first | exact HB.out | apply pw_below_drewN | apply below_drew1)⟩
 have d1 : decide ((10 : Int) < (P.length : Int)) = false := decide_eq_false (by omega)
 have d2 : decide (10 < P.length) = false := decide_eq_false (by omega)
 by_cases c40 : T.size ≤ 4096
 case neg =>
  have d3 : decide ((4096 : Int) < (T.size : Int)) = true := decide_eq_true (by omega)
  have d4 : decide (4096 < T.size) = true := decide_eq_true (by omega)
  go_enter Tryz.func20, Tryz.ntmps20
  go_wp2_with (first | ((with_reducible refine gate_dst (N := 1) rfl ?_); refine box_event ?hg (N := 1) ?hd (cs := #[.int .i64 3, .int .i64 D, .int .i64 C, .slice A0 P.length c0, .string N, .string T]) (t := 24) ?hr ?_; (case hd => rfl); (case hg => rfl); (case hr => first | (go_simp; done) | (go_simp; rfl)); intro gb hg w5 hbox hb; have BK := Aside0.mk hbox; have HB := Aside0.mk hb; obtain ⟨hz0, hz1, hz2, hz3, hz4, hz5⟩ := Sq.c6 hbox; clear hb hbox hg) | (go_at_call 37; refine (l01In_calls _ _ _ _).mono ?_; rintro e w' ⟨rfl, ⟨q_, rfl⟩⟩) | (go_at_call 38; refine (spec_l01Tag.calls k _ _ _ HT.out).mono ?_; rintro e w' ⟨rfl, ⟨q_, rfl⟩⟩))
  go_ret
  exact ⟨by first | rfl | (simp [okB, cfgK, pathK, nameK, textK, *]; done), by repeat (first | exact HB.out | apply pw_below_drewN | apply below_drew1)⟩
 have d3 : decide ((4096 : Int) < (T.size : Int)) = false := decide_eq_false (by omega)
 have d4 : decide (4096 < T.size) = false := decide_eq_false (by omega)
 cases i03 : C == 0
 case false =>
  have i03' : (C != 0) = true := by rw [bne, i03]; rfl
  go_enter Tryz.func20, Tryz.ntmps20
  go_wp2_with (first | ((with_reducible refine gate_dst (N := 1) rfl ?_); refine box_event ?hg (N := 1) ?hd (cs := #[.int .i64 3, .int .i64 D, .int .i64 C, .slice A0 P.length c0, .string N, .string T]) (t := 24) ?hr ?_; (case hd => rfl); (case hg => rfl); (case hr => first | (go_simp; done) | (go_simp; rfl)); intro gb hg w5 hbox hb; have BK := Aside0.mk hbox; have HB := Aside0.mk hb; obtain ⟨hz0, hz1, hz2, hz3, hz4, hz5⟩ := Sq.c6 hbox; clear hb hbox hg) | (go_at_call 37; refine (l01In_calls _ _ _ _).mono ?_; rintro e w' ⟨rfl, ⟨q_, rfl⟩⟩) | (go_at_call 38; refine (spec_l01Tag.calls k _ _ _ HT.out).mono ?_; rintro e w' ⟨rfl, ⟨q_, rfl⟩⟩))
  go_ret
  exact ⟨by first | rfl | (simp [okB, cfgK, pathK, nameK, textK, *]; done), by repeat (first | exact HB.out | apply pw_below_drewN | apply below_drew1)⟩
 have i03' : (C != 0) = false := by rw [bne, i03]; rfl
 go_enter Tryz.func20, Tryz.ntmps20
 go_wp2_with (first | ((with_reducible refine gate_dst (N := 1) rfl ?_); refine box_event ?hg (N := 1) ?hd (cs := #[.int .i64 3, .int .i64 D, .int .i64 C, .slice A0 P.length c0, .string N, .string T]) (t := 24) ?hr ?_; (case hd => rfl); (case hg => rfl); (case hr => first | (go_simp; done) | (go_simp; rfl)); intro gb hg w5 hbox hb; have BK := Aside0.mk hbox; have HB := Aside0.mk hb; obtain ⟨hz0, hz1, hz2, hz3, hz4, hz5⟩ := Sq.c6 hbox; clear hb hbox hg) | (go_at_call 37; refine (l01In_calls _ _ _ _).mono ?_; rintro e w' ⟨rfl, ⟨q_, rfl⟩⟩) | (go_at_call 38; refine (spec_l01Tag.calls k _ _ _ HT.out).mono ?_; rintro e w' ⟨rfl, ⟨q_, rfl⟩⟩))
 go_loopg [7] P.length (fun gg s7 wr => ∃ kk : Nat, kk ≤ P.length ∧ P.length - kk ≤ gg ∧ s7 = .int .i64 kk ∧ Drawn0 w5 wr ∧ Aside0 (∀ j, j < kk → inB 0 60 (rd P (j : Int)) = true))
 case atStart => exact ⟨0, Nat.zero_le _, by omega, rfl, by repeat (first | exact Drawn0.refl _ | apply Drawn0.step), ⟨fun j hj => absurd hj (Nat.not_lt_zero _)⟩⟩
 case round =>
  obtain ⟨kk, hkk, hg, rfl, ⟨q, rfl⟩, A0⟩ := hrel
  by_cases hlt : kk < P.length
  ·have hltz : (kk : Int) < (P.length : Int) := by omega
   have z1 : decide ((kk : Int) < (P.length : Int)) = true := decide_eq_true hltz
   have z2 : decide (kk < P.length) = true := decide_eq_true hlt
   obtain ⟨ad, e1, hcell⟩ := Kd.at_int (Kd.C_below HR.out HB.out) (kk : Int) (by omega) hltz
   cases e1
   simp only [Int.toNat_natCast] at hcell
   have B := Aside0.mk (fun h => all_at (p := inB 0 60) hlt h)
   have B2 := Aside0.mk (fun h (j : Nat) (hj : j < kk + 1) => if e : j = kk then (by rw [e]; exact h : inB 0 60 (rd P (j : Int)) = true) else A0.out j (by omega))
   generalize hy : rd P (kk : Int) = y at hcell B B2
   clear hy
   cases hq : inB 0 60 y with
   | false =>
    have h9 : P.all (inB 0 60) = false := B.out hq
    go_wp2_with (first | ((with_reducible refine gate_dst (N := 1) rfl ?_); refine box_event ?hg (N := 1) ?hd (cs := #[.int .i64 3, .int .i64 D, .int .i64 C, .slice A0 P.length c0, .string N, .string T]) (t := 24) ?hr ?_; (case hd => rfl); (case hg => rfl); (case hr => first | (go_simp; done) | (go_simp; rfl)); intro gb hg w5 hbox hb; have BK := Aside0.mk hbox; have HB := Aside0.mk hb; obtain ⟨hz0, hz1, hz2, hz3, hz4, hz5⟩ := Sq.c6 hbox; clear hb hbox hg) | (go_at_call 37; refine (l01In_calls _ _ _ _).mono ?_; rintro e w' ⟨rfl, ⟨q_, rfl⟩⟩) | (go_at_call 38; refine (spec_l01Tag.calls k _ _ _ HT.out).mono ?_; rintro e w' ⟨rfl, ⟨q_, rfl⟩⟩))
    go_ret
    exact ⟨by first | rfl | (simp [okB, cfgK, pathK, nameK, textK, *]; done), by repeat (first | exact HB.out | apply pw_below_drewN | apply below_drew1)⟩
   | true =>
    have B3 := Aside0.mk (B2.out hq)
    clear B B2 A0
    go_wp2_with (first | ((with_reducible refine gate_dst (N := 1) rfl ?_); refine box_event ?hg (N := 1) ?hd (cs := #[.int .i64 3, .int .i64 D, .int .i64 C, .slice A0 P.length c0, .string N, .string T]) (t := 24) ?hr ?_; (case hd => rfl); (case hg => rfl); (case hr => first | (go_simp; done) | (go_simp; rfl)); intro gb hg w5 hbox hb; have BK := Aside0.mk hbox; have HB := Aside0.mk hb; obtain ⟨hz0, hz1, hz2, hz3, hz4, hz5⟩ := Sq.c6 hbox; clear hb hbox hg) | (go_at_call 37; refine (l01In_calls _ _ _ _).mono ?_; rintro e w' ⟨rfl, ⟨q_, rfl⟩⟩) | (go_at_call 38; refine (spec_l01Tag.calls k _ _ _ HT.out).mono ?_; rintro e w' ⟨rfl, ⟨q_, rfl⟩⟩))
    go_roundg (P.length - (kk + 1))
    case measure => omega
    case rel => exact ⟨kk + 1, by omega, by omega, (by first | rfl | (refine congrArg _ ?_; omega) | (simp; omega)), by repeat (first | exact Drawn0.refl _ | exact ⟨_, rfl⟩ | apply Drawn0.step), B3⟩
  ·have z1 : decide ((kk : Int) < (P.length : Int)) = false := decide_eq_false (by omega)
   have z2 : decide (kk < P.length) = false := decide_eq_false hlt
   have hkl : kk = P.length := by omega
   subst hkl
   have h9 : P.all (inB 0 60) = true := all_to A0.out
   clear A0
   cases e8 : (N.toList == ([] : List UInt8))
   ·have e9 : N.toList.isEmpty = false := by cases h : N.toList with | nil => (first | rfl | (rw [h] at e8; cases e8)) | cons _ _ => (first | rfl | (rw [h] at e8; cases e8))
    go_wp2_with (first | ((with_reducible refine gate_dst (N := 1) rfl ?_); refine box_event ?hg (N := 1) ?hd (cs := #[.int .i64 3, .int .i64 D, .int .i64 C, .slice A0 P.length c0, .string N, .string T]) (t := 24) ?hr ?_; (case hd => rfl); (case hg => rfl); (case hr => first | (go_simp; done) | (go_simp; rfl)); intro gb hg w5 hbox hb; have BK := Aside0.mk hbox; have HB := Aside0.mk hb; obtain ⟨hz0, hz1, hz2, hz3, hz4, hz5⟩ := Sq.c6 hbox; clear hb hbox hg) | (go_at_call 37; refine (l01In_calls _ _ _ _).mono ?_; rintro e w' ⟨rfl, ⟨q_, rfl⟩⟩) | (go_at_call 38; refine (spec_l01Tag.calls k _ _ _ HT.out).mono ?_; rintro e w' ⟨rfl, ⟨q_, rfl⟩⟩))
    go_ret
    exact ⟨by first | rfl | (simp [okB, cfgK, pathK, nameK, textK, *]; done), by repeat (first | exact HB.out | apply pw_below_drewN | apply below_drew1)⟩
   ·have e9 : N.toList.isEmpty = true := by cases h : N.toList with | nil => (first | rfl | (rw [h] at e8; cases e8)) | cons _ _ => (first | rfl | (rw [h] at e8; cases e8))
    go_wp2_with (first | ((with_reducible refine gate_dst (N := 1) rfl ?_); refine box_event ?hg (N := 1) ?hd (cs := #[.int .i64 3, .int .i64 D, .int .i64 C, .slice A0 P.length c0, .string N, .string T]) (t := 24) ?hr ?_; (case hd => rfl); (case hg => rfl); (case hr => first | (go_simp; done) | (go_simp; rfl)); intro gb hg w5 hbox hb; have BK := Aside0.mk hbox; have HB := Aside0.mk hb; obtain ⟨hz0, hz1, hz2, hz3, hz4, hz5⟩ := Sq.c6 hbox; clear hb hbox hg) | (go_at_call 37; refine (l01In_calls _ _ _ _).mono ?_; rintro e w' ⟨rfl, ⟨q_, rfl⟩⟩) | (go_at_call 38; refine (spec_l01Tag.calls k _ _ _ HT.out).mono ?_; rintro e w' ⟨rfl, ⟨q_, rfl⟩⟩))
    go_ret
    exact ⟨by first | rfl | (simp [okB, cfgK, pathK, nameK, textK, *]; done), by repeat (first | exact HB.out | apply pw_below_drewN | apply below_drew1)⟩
set_option maxHeartbeats 4000000 in
set_option maxRecDepth 100000 in
theorem call_4 (k : Nat) (D C : Int) (A0 : Option Addr) (c0 : Nat) (P : List Int) (N T : ByteArray) (t : Bool) (w : World) (hr : Kd.C (Kd.int .i64) w A0 P.length P) (ht : spec_l01Tag.f k N = some t) :
  Calls Tryz.prog 20 #[.agg #[.int .i64 4, .int .i64 D, .int .i64 C, .slice A0 P.length c0, .string N, .string T]] w fun e w' => e = .returned (.bool (okB 4 D C P N T t)) ∧ Below w.heap.size w w' := by
 have hu24 := Tryz.underlying24
 have HR := Aside0.mk hr
 have HT := Aside0.mk ht
 have hbig : P.length ≤ 9223372036854775807 := Kd.C_max hr
 clear hr ht
 have i19 : inB 1 9 4 = true := rfl
 cases i05 : inB 0 5 D
 case false =>
  go_enter Tryz.func20, Tryz.ntmps20
  go_wp2_with (first | ((with_reducible refine gate_dst (N := 1) rfl ?_); refine box_event ?hg (N := 1) ?hd (cs := #[.int .i64 4, .int .i64 D, .int .i64 C, .slice A0 P.length c0, .string N, .string T]) (t := 24) ?hr ?_; (case hd => rfl); (case hg => rfl); (case hr => first | (go_simp; done) | (go_simp; rfl)); intro gb hg w5 hbox hb; have BK := Aside0.mk hbox; have HB := Aside0.mk hb; obtain ⟨hz0, hz1, hz2, hz3, hz4, hz5⟩ := Sq.c6 hbox; clear hb hbox hg) | (go_at_call 37; refine (l01In_calls _ _ _ _).mono ?_; rintro e w' ⟨rfl, ⟨q_, rfl⟩⟩) | (go_at_call 38; refine (spec_l01Tag.calls k _ _ _ HT.out).mono ?_; rintro e w' ⟨rfl, ⟨q_, rfl⟩⟩))
  go_ret
  exact ⟨by first | rfl | (simp [okB, cfgK, pathK, nameK, textK, *]; done), by repeat (first | exact HB.out | apply pw_below_drewN | apply below_drew1)⟩
 by_cases c10 : P.length ≤ 10
 case neg =>
  have d1 : decide ((10 : Int) < (P.length : Int)) = true := decide_eq_true (by omega)
  have d2 : decide (10 < P.length) = true := decide_eq_true (by omega)
  go_enter Tryz.func20, Tryz.ntmps20
  go_wp2_with (first | ((with_reducible refine gate_dst (N := 1) rfl ?_); refine box_event ?hg (N := 1) ?hd (cs := #[.int .i64 4, .int .i64 D, .int .i64 C, .slice A0 P.length c0, .string N, .string T]) (t := 24) ?hr ?_; (case hd => rfl); (case hg => rfl); (case hr => first | (go_simp; done) | (go_simp; rfl)); intro gb hg w5 hbox hb; have BK := Aside0.mk hbox; have HB := Aside0.mk hb; obtain ⟨hz0, hz1, hz2, hz3, hz4, hz5⟩ := Sq.c6 hbox; clear hb hbox hg) | (go_at_call 37; refine (l01In_calls _ _ _ _).mono ?_; rintro e w' ⟨rfl, ⟨q_, rfl⟩⟩) | (go_at_call 38; refine (spec_l01Tag.calls k _ _ _ HT.out).mono ?_; rintro e w' ⟨rfl, ⟨q_, rfl⟩⟩))
  go_ret
  exact ⟨by first | rfl | (simp [okB, cfgK, pathK, nameK, textK, *]; done), by repeat (first | exact HB.out | apply pw_below_drewN | apply below_drew1)⟩
 have d1 : decide ((10 : Int) < (P.length : Int)) = false := decide_eq_false (by omega)
 have d2 : decide (10 < P.length) = false := decide_eq_false (by omega)
 by_cases c40 : T.size ≤ 4096
 case neg =>
  have d3 : decide ((4096 : Int) < (T.size : Int)) = true := decide_eq_true (by omega)
  have d4 : decide (4096 < T.size) = true := decide_eq_true (by omega)
  go_enter Tryz.func20, Tryz.ntmps20
  go_wp2_with (first | ((with_reducible refine gate_dst (N := 1) rfl ?_); refine box_event ?hg (N := 1) ?hd (cs := #[.int .i64 4, .int .i64 D, .int .i64 C, .slice A0 P.length c0, .string N, .string T]) (t := 24) ?hr ?_; (case hd => rfl); (case hg => rfl); (case hr => first | (go_simp; done) | (go_simp; rfl)); intro gb hg w5 hbox hb; have BK := Aside0.mk hbox; have HB := Aside0.mk hb; obtain ⟨hz0, hz1, hz2, hz3, hz4, hz5⟩ := Sq.c6 hbox; clear hb hbox hg) | (go_at_call 37; refine (l01In_calls _ _ _ _).mono ?_; rintro e w' ⟨rfl, ⟨q_, rfl⟩⟩) | (go_at_call 38; refine (spec_l01Tag.calls k _ _ _ HT.out).mono ?_; rintro e w' ⟨rfl, ⟨q_, rfl⟩⟩))
  go_ret
  exact ⟨by first | rfl | (simp [okB, cfgK, pathK, nameK, textK, *]; done), by repeat (first | exact HB.out | apply pw_below_drewN | apply below_drew1)⟩
 have d3 : decide ((4096 : Int) < (T.size : Int)) = false := decide_eq_false (by omega)
 have d4 : decide (4096 < T.size) = false := decide_eq_false (by omega)
 cases i03 : C == 0
 case false =>
  have i03' : (C != 0) = true := by rw [bne, i03]; rfl
  go_enter Tryz.func20, Tryz.ntmps20
  go_wp2_with (first | ((with_reducible refine gate_dst (N := 1) rfl ?_); refine box_event ?hg (N := 1) ?hd (cs := #[.int .i64 4, .int .i64 D, .int .i64 C, .slice A0 P.length c0, .string N, .string T]) (t := 24) ?hr ?_; (case hd => rfl); (case hg => rfl); (case hr => first | (go_simp; done) | (go_simp; rfl)); intro gb hg w5 hbox hb; have BK := Aside0.mk hbox; have HB := Aside0.mk hb; obtain ⟨hz0, hz1, hz2, hz3, hz4, hz5⟩ := Sq.c6 hbox; clear hb hbox hg) | (go_at_call 37; refine (l01In_calls _ _ _ _).mono ?_; rintro e w' ⟨rfl, ⟨q_, rfl⟩⟩) | (go_at_call 38; refine (spec_l01Tag.calls k _ _ _ HT.out).mono ?_; rintro e w' ⟨rfl, ⟨q_, rfl⟩⟩))
  go_ret
  exact ⟨by first | rfl | (simp [okB, cfgK, pathK, nameK, textK, *]; done), by repeat (first | exact HB.out | apply pw_below_drewN | apply below_drew1)⟩
 have i03' : (C != 0) = false := by rw [bne, i03]; rfl
 go_enter Tryz.func20, Tryz.ntmps20
 go_wp2_with (first | ((with_reducible refine gate_dst (N := 1) rfl ?_); refine box_event ?hg (N := 1) ?hd (cs := #[.int .i64 4, .int .i64 D, .int .i64 C, .slice A0 P.length c0, .string N, .string T]) (t := 24) ?hr ?_; (case hd => rfl); (case hg => rfl); (case hr => first | (go_simp; done) | (go_simp; rfl)); intro gb hg w5 hbox hb; have BK := Aside0.mk hbox; have HB := Aside0.mk hb; obtain ⟨hz0, hz1, hz2, hz3, hz4, hz5⟩ := Sq.c6 hbox; clear hb hbox hg) | (go_at_call 37; refine (l01In_calls _ _ _ _).mono ?_; rintro e w' ⟨rfl, ⟨q_, rfl⟩⟩) | (go_at_call 38; refine (spec_l01Tag.calls k _ _ _ HT.out).mono ?_; rintro e w' ⟨rfl, ⟨q_, rfl⟩⟩))
 go_loopg [7] P.length (fun gg s7 wr => ∃ kk : Nat, kk ≤ P.length ∧ P.length - kk ≤ gg ∧ s7 = .int .i64 kk ∧ Drawn0 w5 wr ∧ Aside0 (∀ j, j < kk → inB 0 60 (rd P (j : Int)) = true))
 case atStart => exact ⟨0, Nat.zero_le _, by omega, rfl, by repeat (first | exact Drawn0.refl _ | apply Drawn0.step), ⟨fun j hj => absurd hj (Nat.not_lt_zero _)⟩⟩
 case round =>
  obtain ⟨kk, hkk, hg, rfl, ⟨q, rfl⟩, A0⟩ := hrel
  by_cases hlt : kk < P.length
  ·have hltz : (kk : Int) < (P.length : Int) := by omega
   have z1 : decide ((kk : Int) < (P.length : Int)) = true := decide_eq_true hltz
   have z2 : decide (kk < P.length) = true := decide_eq_true hlt
   obtain ⟨ad, e1, hcell⟩ := Kd.at_int (Kd.C_below HR.out HB.out) (kk : Int) (by omega) hltz
   cases e1
   simp only [Int.toNat_natCast] at hcell
   have B := Aside0.mk (fun h => all_at (p := inB 0 60) hlt h)
   have B2 := Aside0.mk (fun h (j : Nat) (hj : j < kk + 1) => if e : j = kk then (by rw [e]; exact h : inB 0 60 (rd P (j : Int)) = true) else A0.out j (by omega))
   generalize hy : rd P (kk : Int) = y at hcell B B2
   clear hy
   cases hq : inB 0 60 y with
   | false =>
    have h9 : P.all (inB 0 60) = false := B.out hq
    go_wp2_with (first | ((with_reducible refine gate_dst (N := 1) rfl ?_); refine box_event ?hg (N := 1) ?hd (cs := #[.int .i64 4, .int .i64 D, .int .i64 C, .slice A0 P.length c0, .string N, .string T]) (t := 24) ?hr ?_; (case hd => rfl); (case hg => rfl); (case hr => first | (go_simp; done) | (go_simp; rfl)); intro gb hg w5 hbox hb; have BK := Aside0.mk hbox; have HB := Aside0.mk hb; obtain ⟨hz0, hz1, hz2, hz3, hz4, hz5⟩ := Sq.c6 hbox; clear hb hbox hg) | (go_at_call 37; refine (l01In_calls _ _ _ _).mono ?_; rintro e w' ⟨rfl, ⟨q_, rfl⟩⟩) | (go_at_call 38; refine (spec_l01Tag.calls k _ _ _ HT.out).mono ?_; rintro e w' ⟨rfl, ⟨q_, rfl⟩⟩))
    go_ret
    exact ⟨by first | rfl | (simp [okB, cfgK, pathK, nameK, textK, *]; done), by repeat (first | exact HB.out | apply pw_below_drewN | apply below_drew1)⟩
   | true =>
    have B3 := Aside0.mk (B2.out hq)
    clear B B2 A0
    go_wp2_with (first | ((with_reducible refine gate_dst (N := 1) rfl ?_); refine box_event ?hg (N := 1) ?hd (cs := #[.int .i64 4, .int .i64 D, .int .i64 C, .slice A0 P.length c0, .string N, .string T]) (t := 24) ?hr ?_; (case hd => rfl); (case hg => rfl); (case hr => first | (go_simp; done) | (go_simp; rfl)); intro gb hg w5 hbox hb; have BK := Aside0.mk hbox; have HB := Aside0.mk hb; obtain ⟨hz0, hz1, hz2, hz3, hz4, hz5⟩ := Sq.c6 hbox; clear hb hbox hg) | (go_at_call 37; refine (l01In_calls _ _ _ _).mono ?_; rintro e w' ⟨rfl, ⟨q_, rfl⟩⟩) | (go_at_call 38; refine (spec_l01Tag.calls k _ _ _ HT.out).mono ?_; rintro e w' ⟨rfl, ⟨q_, rfl⟩⟩))
    go_roundg (P.length - (kk + 1))
    case measure => omega
    case rel => exact ⟨kk + 1, by omega, by omega, (by first | rfl | (refine congrArg _ ?_; omega) | (simp; omega)), by repeat (first | exact Drawn0.refl _ | exact ⟨_, rfl⟩ | apply Drawn0.step), B3⟩
  ·have z1 : decide ((kk : Int) < (P.length : Int)) = false := decide_eq_false (by omega)
   have z2 : decide (kk < P.length) = false := decide_eq_false hlt
   have hkl : kk = P.length := by omega
   subst hkl
   have h9 : P.all (inB 0 60) = true := all_to A0.out
   clear A0
   cases t
   ·go_wp2_with (first | ((with_reducible refine gate_dst (N := 1) rfl ?_); refine box_event ?hg (N := 1) ?hd (cs := #[.int .i64 4, .int .i64 D, .int .i64 C, .slice A0 P.length c0, .string N, .string T]) (t := 24) ?hr ?_; (case hd => rfl); (case hg => rfl); (case hr => first | (go_simp; done) | (go_simp; rfl)); intro gb hg w5 hbox hb; have BK := Aside0.mk hbox; have HB := Aside0.mk hb; obtain ⟨hz0, hz1, hz2, hz3, hz4, hz5⟩ := Sq.c6 hbox; clear hb hbox hg) | (go_at_call 37; refine (l01In_calls _ _ _ _).mono ?_; rintro e w' ⟨rfl, ⟨q_, rfl⟩⟩) | (go_at_call 38; refine (spec_l01Tag.calls k _ _ _ HT.out).mono ?_; rintro e w' ⟨rfl, ⟨q_, rfl⟩⟩))
    go_ret
    exact ⟨by first | rfl | (simp [okB, cfgK, pathK, nameK, textK, *]; done), by repeat (first | exact HB.out | apply pw_below_drewN | apply below_drew1)⟩
   ·go_wp2_with (first | ((with_reducible refine gate_dst (N := 1) rfl ?_); refine box_event ?hg (N := 1) ?hd (cs := #[.int .i64 4, .int .i64 D, .int .i64 C, .slice A0 P.length c0, .string N, .string T]) (t := 24) ?hr ?_; (case hd => rfl); (case hg => rfl); (case hr => first | (go_simp; done) | (go_simp; rfl)); intro gb hg w5 hbox hb; have BK := Aside0.mk hbox; have HB := Aside0.mk hb; obtain ⟨hz0, hz1, hz2, hz3, hz4, hz5⟩ := Sq.c6 hbox; clear hb hbox hg) | (go_at_call 37; refine (l01In_calls _ _ _ _).mono ?_; rintro e w' ⟨rfl, ⟨q_, rfl⟩⟩) | (go_at_call 38; refine (spec_l01Tag.calls k _ _ _ HT.out).mono ?_; rintro e w' ⟨rfl, ⟨q_, rfl⟩⟩))
    go_ret
    exact ⟨by first | rfl | (simp [okB, cfgK, pathK, nameK, textK, *]; done), by repeat (first | exact HB.out | apply pw_below_drewN | apply below_drew1)⟩
set_option maxHeartbeats 4000000 in
set_option maxRecDepth 100000 in
theorem call_5 (k : Nat) (D C : Int) (A0 : Option Addr) (c0 : Nat) (P : List Int) (N T : ByteArray) (t : Bool) (w : World) (hr : Kd.C (Kd.int .i64) w A0 P.length P) (ht : spec_l01Tag.f k N = some t) :
  Calls Tryz.prog 20 #[.agg #[.int .i64 5, .int .i64 D, .int .i64 C, .slice A0 P.length c0, .string N, .string T]] w fun e w' => e = .returned (.bool (okB 5 D C P N T t)) ∧ Below w.heap.size w w' := by
 have hu24 := Tryz.underlying24
 have HR := Aside0.mk hr
 have HT := Aside0.mk ht
 have hbig : P.length ≤ 9223372036854775807 := Kd.C_max hr
 clear hr ht
 have i19 : inB 1 9 5 = true := rfl
 cases i05 : inB 0 5 D
 case false =>
  go_enter Tryz.func20, Tryz.ntmps20
  go_wp2_with (first | ((with_reducible refine gate_dst (N := 1) rfl ?_); refine box_event ?hg (N := 1) ?hd (cs := #[.int .i64 5, .int .i64 D, .int .i64 C, .slice A0 P.length c0, .string N, .string T]) (t := 24) ?hr ?_; (case hd => rfl); (case hg => rfl); (case hr => first | (go_simp; done) | (go_simp; rfl)); intro gb hg w5 hbox hb; have BK := Aside0.mk hbox; have HB := Aside0.mk hb; obtain ⟨hz0, hz1, hz2, hz3, hz4, hz5⟩ := Sq.c6 hbox; clear hb hbox hg) | (go_at_call 37; refine (l01In_calls _ _ _ _).mono ?_; rintro e w' ⟨rfl, ⟨q_, rfl⟩⟩) | (go_at_call 38; refine (spec_l01Tag.calls k _ _ _ HT.out).mono ?_; rintro e w' ⟨rfl, ⟨q_, rfl⟩⟩))
  go_ret
  exact ⟨by first | rfl | (simp [okB, cfgK, pathK, nameK, textK, *]; done), by repeat (first | exact HB.out | apply pw_below_drewN | apply below_drew1)⟩
 by_cases c10 : P.length ≤ 10
 case neg =>
  have d1 : decide ((10 : Int) < (P.length : Int)) = true := decide_eq_true (by omega)
  have d2 : decide (10 < P.length) = true := decide_eq_true (by omega)
  go_enter Tryz.func20, Tryz.ntmps20
  go_wp2_with (first | ((with_reducible refine gate_dst (N := 1) rfl ?_); refine box_event ?hg (N := 1) ?hd (cs := #[.int .i64 5, .int .i64 D, .int .i64 C, .slice A0 P.length c0, .string N, .string T]) (t := 24) ?hr ?_; (case hd => rfl); (case hg => rfl); (case hr => first | (go_simp; done) | (go_simp; rfl)); intro gb hg w5 hbox hb; have BK := Aside0.mk hbox; have HB := Aside0.mk hb; obtain ⟨hz0, hz1, hz2, hz3, hz4, hz5⟩ := Sq.c6 hbox; clear hb hbox hg) | (go_at_call 37; refine (l01In_calls _ _ _ _).mono ?_; rintro e w' ⟨rfl, ⟨q_, rfl⟩⟩) | (go_at_call 38; refine (spec_l01Tag.calls k _ _ _ HT.out).mono ?_; rintro e w' ⟨rfl, ⟨q_, rfl⟩⟩))
  go_ret
  exact ⟨by first | rfl | (simp [okB, cfgK, pathK, nameK, textK, *]; done), by repeat (first | exact HB.out | apply pw_below_drewN | apply below_drew1)⟩
 have d1 : decide ((10 : Int) < (P.length : Int)) = false := decide_eq_false (by omega)
 have d2 : decide (10 < P.length) = false := decide_eq_false (by omega)
 by_cases c40 : T.size ≤ 4096
 case neg =>
  have d3 : decide ((4096 : Int) < (T.size : Int)) = true := decide_eq_true (by omega)
  have d4 : decide (4096 < T.size) = true := decide_eq_true (by omega)
  go_enter Tryz.func20, Tryz.ntmps20
  go_wp2_with (first | ((with_reducible refine gate_dst (N := 1) rfl ?_); refine box_event ?hg (N := 1) ?hd (cs := #[.int .i64 5, .int .i64 D, .int .i64 C, .slice A0 P.length c0, .string N, .string T]) (t := 24) ?hr ?_; (case hd => rfl); (case hg => rfl); (case hr => first | (go_simp; done) | (go_simp; rfl)); intro gb hg w5 hbox hb; have BK := Aside0.mk hbox; have HB := Aside0.mk hb; obtain ⟨hz0, hz1, hz2, hz3, hz4, hz5⟩ := Sq.c6 hbox; clear hb hbox hg) | (go_at_call 37; refine (l01In_calls _ _ _ _).mono ?_; rintro e w' ⟨rfl, ⟨q_, rfl⟩⟩) | (go_at_call 38; refine (spec_l01Tag.calls k _ _ _ HT.out).mono ?_; rintro e w' ⟨rfl, ⟨q_, rfl⟩⟩))
  go_ret
  exact ⟨by first | rfl | (simp [okB, cfgK, pathK, nameK, textK, *]; done), by repeat (first | exact HB.out | apply pw_below_drewN | apply below_drew1)⟩
 have d3 : decide ((4096 : Int) < (T.size : Int)) = false := decide_eq_false (by omega)
 have d4 : decide (4096 < T.size) = false := decide_eq_false (by omega)
 cases i03 : C == 0
 case false =>
  have i03' : (C != 0) = true := by rw [bne, i03]; rfl
  go_enter Tryz.func20, Tryz.ntmps20
  go_wp2_with (first | ((with_reducible refine gate_dst (N := 1) rfl ?_); refine box_event ?hg (N := 1) ?hd (cs := #[.int .i64 5, .int .i64 D, .int .i64 C, .slice A0 P.length c0, .string N, .string T]) (t := 24) ?hr ?_; (case hd => rfl); (case hg => rfl); (case hr => first | (go_simp; done) | (go_simp; rfl)); intro gb hg w5 hbox hb; have BK := Aside0.mk hbox; have HB := Aside0.mk hb; obtain ⟨hz0, hz1, hz2, hz3, hz4, hz5⟩ := Sq.c6 hbox; clear hb hbox hg) | (go_at_call 37; refine (l01In_calls _ _ _ _).mono ?_; rintro e w' ⟨rfl, ⟨q_, rfl⟩⟩) | (go_at_call 38; refine (spec_l01Tag.calls k _ _ _ HT.out).mono ?_; rintro e w' ⟨rfl, ⟨q_, rfl⟩⟩))
  go_ret
  exact ⟨by first | rfl | (simp [okB, cfgK, pathK, nameK, textK, *]; done), by repeat (first | exact HB.out | apply pw_below_drewN | apply below_drew1)⟩
 have i03' : (C != 0) = false := by rw [bne, i03]; rfl
 cases e5 : (T.toList == ([] : List UInt8))
 case false =>
  have e6 : (T.toList != ([] : List UInt8)) = true := by rw [bne, e5]; rfl
  have e7 : T.toList.isEmpty = false := by cases h : T.toList with | nil => rw [h] at e5; cases e5 | cons _ _ => rfl
  go_enter Tryz.func20, Tryz.ntmps20
  go_wp2_with (first | ((with_reducible refine gate_dst (N := 1) rfl ?_); refine box_event ?hg (N := 1) ?hd (cs := #[.int .i64 5, .int .i64 D, .int .i64 C, .slice A0 P.length c0, .string N, .string T]) (t := 24) ?hr ?_; (case hd => rfl); (case hg => rfl); (case hr => first | (go_simp; done) | (go_simp; rfl)); intro gb hg w5 hbox hb; have BK := Aside0.mk hbox; have HB := Aside0.mk hb; obtain ⟨hz0, hz1, hz2, hz3, hz4, hz5⟩ := Sq.c6 hbox; clear hb hbox hg) | (go_at_call 37; refine (l01In_calls _ _ _ _).mono ?_; rintro e w' ⟨rfl, ⟨q_, rfl⟩⟩) | (go_at_call 38; refine (spec_l01Tag.calls k _ _ _ HT.out).mono ?_; rintro e w' ⟨rfl, ⟨q_, rfl⟩⟩))
  go_ret
  exact ⟨by first | rfl | (simp [okB, cfgK, pathK, nameK, textK, *]; done), by repeat (first | exact HB.out | apply pw_below_drewN | apply below_drew1)⟩
 have e6 : (T.toList != ([] : List UInt8)) = false := by rw [bne, e5]; rfl
 have e7 : T.toList.isEmpty = true := by cases h : T.toList with | nil => rfl | cons _ _ => rw [h] at e5; cases e5
 go_enter Tryz.func20, Tryz.ntmps20
 go_wp2_with (first | ((with_reducible refine gate_dst (N := 1) rfl ?_); refine box_event ?hg (N := 1) ?hd (cs := #[.int .i64 5, .int .i64 D, .int .i64 C, .slice A0 P.length c0, .string N, .string T]) (t := 24) ?hr ?_; (case hd => rfl); (case hg => rfl); (case hr => first | (go_simp; done) | (go_simp; rfl)); intro gb hg w5 hbox hb; have BK := Aside0.mk hbox; have HB := Aside0.mk hb; obtain ⟨hz0, hz1, hz2, hz3, hz4, hz5⟩ := Sq.c6 hbox; clear hb hbox hg) | (go_at_call 37; refine (l01In_calls _ _ _ _).mono ?_; rintro e w' ⟨rfl, ⟨q_, rfl⟩⟩) | (go_at_call 38; refine (spec_l01Tag.calls k _ _ _ HT.out).mono ?_; rintro e w' ⟨rfl, ⟨q_, rfl⟩⟩))
 go_loopg [7] P.length (fun gg s7 wr => ∃ kk : Nat, kk ≤ P.length ∧ P.length - kk ≤ gg ∧ s7 = .int .i64 kk ∧ Drawn0 w5 wr ∧ Aside0 (∀ j, j < kk → inB 0 60 (rd P (j : Int)) = true))
 case atStart => exact ⟨0, Nat.zero_le _, by omega, rfl, by repeat (first | exact Drawn0.refl _ | apply Drawn0.step), ⟨fun j hj => absurd hj (Nat.not_lt_zero _)⟩⟩
 case round =>
  obtain ⟨kk, hkk, hg, rfl, ⟨q, rfl⟩, A0⟩ := hrel
  by_cases hlt : kk < P.length
  ·have hltz : (kk : Int) < (P.length : Int) := by omega
   have z1 : decide ((kk : Int) < (P.length : Int)) = true := decide_eq_true hltz
   have z2 : decide (kk < P.length) = true := decide_eq_true hlt
   obtain ⟨ad, e1, hcell⟩ := Kd.at_int (Kd.C_below HR.out HB.out) (kk : Int) (by omega) hltz
   cases e1
   simp only [Int.toNat_natCast] at hcell
   have B := Aside0.mk (fun h => all_at (p := inB 0 60) hlt h)
   have B2 := Aside0.mk (fun h (j : Nat) (hj : j < kk + 1) => if e : j = kk then (by rw [e]; exact h : inB 0 60 (rd P (j : Int)) = true) else A0.out j (by omega))
   generalize hy : rd P (kk : Int) = y at hcell B B2
   clear hy
   cases hq : inB 0 60 y with
   | false =>
    have h9 : P.all (inB 0 60) = false := B.out hq
    go_wp2_with (first | ((with_reducible refine gate_dst (N := 1) rfl ?_); refine box_event ?hg (N := 1) ?hd (cs := #[.int .i64 5, .int .i64 D, .int .i64 C, .slice A0 P.length c0, .string N, .string T]) (t := 24) ?hr ?_; (case hd => rfl); (case hg => rfl); (case hr => first | (go_simp; done) | (go_simp; rfl)); intro gb hg w5 hbox hb; have BK := Aside0.mk hbox; have HB := Aside0.mk hb; obtain ⟨hz0, hz1, hz2, hz3, hz4, hz5⟩ := Sq.c6 hbox; clear hb hbox hg) | (go_at_call 37; refine (l01In_calls _ _ _ _).mono ?_; rintro e w' ⟨rfl, ⟨q_, rfl⟩⟩) | (go_at_call 38; refine (spec_l01Tag.calls k _ _ _ HT.out).mono ?_; rintro e w' ⟨rfl, ⟨q_, rfl⟩⟩))
    go_ret
    exact ⟨by first | rfl | (simp [okB, cfgK, pathK, nameK, textK, *]; done), by repeat (first | exact HB.out | apply pw_below_drewN | apply below_drew1)⟩
   | true =>
    have B3 := Aside0.mk (B2.out hq)
    clear B B2 A0
    go_wp2_with (first | ((with_reducible refine gate_dst (N := 1) rfl ?_); refine box_event ?hg (N := 1) ?hd (cs := #[.int .i64 5, .int .i64 D, .int .i64 C, .slice A0 P.length c0, .string N, .string T]) (t := 24) ?hr ?_; (case hd => rfl); (case hg => rfl); (case hr => first | (go_simp; done) | (go_simp; rfl)); intro gb hg w5 hbox hb; have BK := Aside0.mk hbox; have HB := Aside0.mk hb; obtain ⟨hz0, hz1, hz2, hz3, hz4, hz5⟩ := Sq.c6 hbox; clear hb hbox hg) | (go_at_call 37; refine (l01In_calls _ _ _ _).mono ?_; rintro e w' ⟨rfl, ⟨q_, rfl⟩⟩) | (go_at_call 38; refine (spec_l01Tag.calls k _ _ _ HT.out).mono ?_; rintro e w' ⟨rfl, ⟨q_, rfl⟩⟩))
    go_roundg (P.length - (kk + 1))
    case measure => omega
    case rel => exact ⟨kk + 1, by omega, by omega, (by first | rfl | (refine congrArg _ ?_; omega) | (simp; omega)), by repeat (first | exact Drawn0.refl _ | exact ⟨_, rfl⟩ | apply Drawn0.step), B3⟩
  ·have z1 : decide ((kk : Int) < (P.length : Int)) = false := decide_eq_false (by omega)
   have z2 : decide (kk < P.length) = false := decide_eq_false hlt
   have hkl : kk = P.length := by omega
   subst hkl
   have h9 : P.all (inB 0 60) = true := all_to A0.out
   clear A0
   cases e8 : (N.toList == ([] : List UInt8))
   ·have e9 : N.toList.isEmpty = false := by cases h : N.toList with | nil => (first | rfl | (rw [h] at e8; cases e8)) | cons _ _ => (first | rfl | (rw [h] at e8; cases e8))
    go_wp2_with (first | ((with_reducible refine gate_dst (N := 1) rfl ?_); refine box_event ?hg (N := 1) ?hd (cs := #[.int .i64 5, .int .i64 D, .int .i64 C, .slice A0 P.length c0, .string N, .string T]) (t := 24) ?hr ?_; (case hd => rfl); (case hg => rfl); (case hr => first | (go_simp; done) | (go_simp; rfl)); intro gb hg w5 hbox hb; have BK := Aside0.mk hbox; have HB := Aside0.mk hb; obtain ⟨hz0, hz1, hz2, hz3, hz4, hz5⟩ := Sq.c6 hbox; clear hb hbox hg) | (go_at_call 37; refine (l01In_calls _ _ _ _).mono ?_; rintro e w' ⟨rfl, ⟨q_, rfl⟩⟩) | (go_at_call 38; refine (spec_l01Tag.calls k _ _ _ HT.out).mono ?_; rintro e w' ⟨rfl, ⟨q_, rfl⟩⟩))
    go_ret
    exact ⟨by first | rfl | (simp [okB, cfgK, pathK, nameK, textK, *]; done), by repeat (first | exact HB.out | apply pw_below_drewN | apply below_drew1)⟩
   ·have e9 : N.toList.isEmpty = true := by cases h : N.toList with | nil => (first | rfl | (rw [h] at e8; cases e8)) | cons _ _ => (first | rfl | (rw [h] at e8; cases e8))
    go_wp2_with (first | ((with_reducible refine gate_dst (N := 1) rfl ?_); refine box_event ?hg (N := 1) ?hd (cs := #[.int .i64 5, .int .i64 D, .int .i64 C, .slice A0 P.length c0, .string N, .string T]) (t := 24) ?hr ?_; (case hd => rfl); (case hg => rfl); (case hr => first | (go_simp; done) | (go_simp; rfl)); intro gb hg w5 hbox hb; have BK := Aside0.mk hbox; have HB := Aside0.mk hb; obtain ⟨hz0, hz1, hz2, hz3, hz4, hz5⟩ := Sq.c6 hbox; clear hb hbox hg) | (go_at_call 37; refine (l01In_calls _ _ _ _).mono ?_; rintro e w' ⟨rfl, ⟨q_, rfl⟩⟩) | (go_at_call 38; refine (spec_l01Tag.calls k _ _ _ HT.out).mono ?_; rintro e w' ⟨rfl, ⟨q_, rfl⟩⟩))
    go_ret
    exact ⟨by first | rfl | (simp [okB, cfgK, pathK, nameK, textK, *]; done), by repeat (first | exact HB.out | apply pw_below_drewN | apply below_drew1)⟩
set_option maxHeartbeats 4000000 in
set_option maxRecDepth 100000 in
theorem call_6 (k : Nat) (D C : Int) (A0 : Option Addr) (c0 : Nat) (P : List Int) (N T : ByteArray) (t : Bool) (w : World) (hr : Kd.C (Kd.int .i64) w A0 P.length P) (ht : spec_l01Tag.f k N = some t) :
  Calls Tryz.prog 20 #[.agg #[.int .i64 6, .int .i64 D, .int .i64 C, .slice A0 P.length c0, .string N, .string T]] w fun e w' => e = .returned (.bool (okB 6 D C P N T t)) ∧ Below w.heap.size w w' := by
 have hu24 := Tryz.underlying24
 have HR := Aside0.mk hr
 have HT := Aside0.mk ht
 have hbig : P.length ≤ 9223372036854775807 := Kd.C_max hr
 clear hr ht
 have i19 : inB 1 9 6 = true := rfl
 cases i05 : inB 0 5 D
 case false =>
  go_enter Tryz.func20, Tryz.ntmps20
  go_wp2_with (first | ((with_reducible refine gate_dst (N := 1) rfl ?_); refine box_event ?hg (N := 1) ?hd (cs := #[.int .i64 6, .int .i64 D, .int .i64 C, .slice A0 P.length c0, .string N, .string T]) (t := 24) ?hr ?_; (case hd => rfl); (case hg => rfl); (case hr => first | (go_simp; done) | (go_simp; rfl)); intro gb hg w5 hbox hb; have BK := Aside0.mk hbox; have HB := Aside0.mk hb; obtain ⟨hz0, hz1, hz2, hz3, hz4, hz5⟩ := Sq.c6 hbox; clear hb hbox hg) | (go_at_call 37; refine (l01In_calls _ _ _ _).mono ?_; rintro e w' ⟨rfl, ⟨q_, rfl⟩⟩) | (go_at_call 38; refine (spec_l01Tag.calls k _ _ _ HT.out).mono ?_; rintro e w' ⟨rfl, ⟨q_, rfl⟩⟩))
  go_ret
  exact ⟨by first | rfl | (simp [okB, cfgK, pathK, nameK, textK, *]; done), by repeat (first | exact HB.out | apply pw_below_drewN | apply below_drew1)⟩
 by_cases c10 : P.length ≤ 10
 case neg =>
  have d1 : decide ((10 : Int) < (P.length : Int)) = true := decide_eq_true (by omega)
  have d2 : decide (10 < P.length) = true := decide_eq_true (by omega)
  go_enter Tryz.func20, Tryz.ntmps20
  go_wp2_with (first | ((with_reducible refine gate_dst (N := 1) rfl ?_); refine box_event ?hg (N := 1) ?hd (cs := #[.int .i64 6, .int .i64 D, .int .i64 C, .slice A0 P.length c0, .string N, .string T]) (t := 24) ?hr ?_; (case hd => rfl); (case hg => rfl); (case hr => first | (go_simp; done) | (go_simp; rfl)); intro gb hg w5 hbox hb; have BK := Aside0.mk hbox; have HB := Aside0.mk hb; obtain ⟨hz0, hz1, hz2, hz3, hz4, hz5⟩ := Sq.c6 hbox; clear hb hbox hg) | (go_at_call 37; refine (l01In_calls _ _ _ _).mono ?_; rintro e w' ⟨rfl, ⟨q_, rfl⟩⟩) | (go_at_call 38; refine (spec_l01Tag.calls k _ _ _ HT.out).mono ?_; rintro e w' ⟨rfl, ⟨q_, rfl⟩⟩))
  go_ret
  exact ⟨by first | rfl | (simp [okB, cfgK, pathK, nameK, textK, *]; done), by repeat (first | exact HB.out | apply pw_below_drewN | apply below_drew1)⟩
 have d1 : decide ((10 : Int) < (P.length : Int)) = false := decide_eq_false (by omega)
 have d2 : decide (10 < P.length) = false := decide_eq_false (by omega)
 by_cases c40 : T.size ≤ 4096
 case neg =>
  have d3 : decide ((4096 : Int) < (T.size : Int)) = true := decide_eq_true (by omega)
  have d4 : decide (4096 < T.size) = true := decide_eq_true (by omega)
  go_enter Tryz.func20, Tryz.ntmps20
  go_wp2_with (first | ((with_reducible refine gate_dst (N := 1) rfl ?_); refine box_event ?hg (N := 1) ?hd (cs := #[.int .i64 6, .int .i64 D, .int .i64 C, .slice A0 P.length c0, .string N, .string T]) (t := 24) ?hr ?_; (case hd => rfl); (case hg => rfl); (case hr => first | (go_simp; done) | (go_simp; rfl)); intro gb hg w5 hbox hb; have BK := Aside0.mk hbox; have HB := Aside0.mk hb; obtain ⟨hz0, hz1, hz2, hz3, hz4, hz5⟩ := Sq.c6 hbox; clear hb hbox hg) | (go_at_call 37; refine (l01In_calls _ _ _ _).mono ?_; rintro e w' ⟨rfl, ⟨q_, rfl⟩⟩) | (go_at_call 38; refine (spec_l01Tag.calls k _ _ _ HT.out).mono ?_; rintro e w' ⟨rfl, ⟨q_, rfl⟩⟩))
  go_ret
  exact ⟨by first | rfl | (simp [okB, cfgK, pathK, nameK, textK, *]; done), by repeat (first | exact HB.out | apply pw_below_drewN | apply below_drew1)⟩
 have d3 : decide ((4096 : Int) < (T.size : Int)) = false := decide_eq_false (by omega)
 have d4 : decide (4096 < T.size) = false := decide_eq_false (by omega)
 cases i03 : inB 0 3 C
 case false =>
  go_enter Tryz.func20, Tryz.ntmps20
  go_wp2_with (first | ((with_reducible refine gate_dst (N := 1) rfl ?_); refine box_event ?hg (N := 1) ?hd (cs := #[.int .i64 6, .int .i64 D, .int .i64 C, .slice A0 P.length c0, .string N, .string T]) (t := 24) ?hr ?_; (case hd => rfl); (case hg => rfl); (case hr => first | (go_simp; done) | (go_simp; rfl)); intro gb hg w5 hbox hb; have BK := Aside0.mk hbox; have HB := Aside0.mk hb; obtain ⟨hz0, hz1, hz2, hz3, hz4, hz5⟩ := Sq.c6 hbox; clear hb hbox hg) | (go_at_call 37; refine (l01In_calls _ _ _ _).mono ?_; rintro e w' ⟨rfl, ⟨q_, rfl⟩⟩) | (go_at_call 38; refine (spec_l01Tag.calls k _ _ _ HT.out).mono ?_; rintro e w' ⟨rfl, ⟨q_, rfl⟩⟩))
  go_ret
  exact ⟨by first | rfl | (simp [okB, cfgK, pathK, nameK, textK, *]; done), by repeat (first | exact HB.out | apply pw_below_drewN | apply below_drew1)⟩
 by_cases c0p : P.length ≤ 0
 case neg =>
  have d5 : decide ((0 : Int) < (P.length : Int)) = true := decide_eq_true (by omega)
  have d6 : decide (0 < P.length) = true := decide_eq_true (by omega)
  have d7 : P.isEmpty = false := by cases P with | nil => simp at c0p | cons _ _ => rfl
  go_enter Tryz.func20, Tryz.ntmps20
  go_wp2_with (first | ((with_reducible refine gate_dst (N := 1) rfl ?_); refine box_event ?hg (N := 1) ?hd (cs := #[.int .i64 6, .int .i64 D, .int .i64 C, .slice A0 P.length c0, .string N, .string T]) (t := 24) ?hr ?_; (case hd => rfl); (case hg => rfl); (case hr => first | (go_simp; done) | (go_simp; rfl)); intro gb hg w5 hbox hb; have BK := Aside0.mk hbox; have HB := Aside0.mk hb; obtain ⟨hz0, hz1, hz2, hz3, hz4, hz5⟩ := Sq.c6 hbox; clear hb hbox hg) | (go_at_call 37; refine (l01In_calls _ _ _ _).mono ?_; rintro e w' ⟨rfl, ⟨q_, rfl⟩⟩) | (go_at_call 38; refine (spec_l01Tag.calls k _ _ _ HT.out).mono ?_; rintro e w' ⟨rfl, ⟨q_, rfl⟩⟩))
  go_ret
  exact ⟨by first | rfl | (simp [okB, cfgK, pathK, nameK, textK, *]; done), by repeat (first | exact HB.out | apply pw_below_drewN | apply below_drew1)⟩
 have d5 : decide ((0 : Int) < (P.length : Int)) = false := decide_eq_false (by omega)
 have d6 : decide (0 < P.length) = false := decide_eq_false (by omega)
 have d7 : P.isEmpty = true := by cases P with | nil => rfl | cons _ _ => simp at c0p
 go_enter Tryz.func20, Tryz.ntmps20
 go_wp2_with (first | ((with_reducible refine gate_dst (N := 1) rfl ?_); refine box_event ?hg (N := 1) ?hd (cs := #[.int .i64 6, .int .i64 D, .int .i64 C, .slice A0 P.length c0, .string N, .string T]) (t := 24) ?hr ?_; (case hd => rfl); (case hg => rfl); (case hr => first | (go_simp; done) | (go_simp; rfl)); intro gb hg w5 hbox hb; have BK := Aside0.mk hbox; have HB := Aside0.mk hb; obtain ⟨hz0, hz1, hz2, hz3, hz4, hz5⟩ := Sq.c6 hbox; clear hb hbox hg) | (go_at_call 37; refine (l01In_calls _ _ _ _).mono ?_; rintro e w' ⟨rfl, ⟨q_, rfl⟩⟩) | (go_at_call 38; refine (spec_l01Tag.calls k _ _ _ HT.out).mono ?_; rintro e w' ⟨rfl, ⟨q_, rfl⟩⟩))
 go_loopg [7] P.length (fun gg s7 wr => ∃ kk : Nat, kk ≤ P.length ∧ P.length - kk ≤ gg ∧ s7 = .int .i64 kk ∧ Drawn0 w5 wr ∧ Aside0 (∀ j, j < kk → inB 0 60 (rd P (j : Int)) = true))
 case atStart => exact ⟨0, Nat.zero_le _, by omega, rfl, by repeat (first | exact Drawn0.refl _ | apply Drawn0.step), ⟨fun j hj => absurd hj (Nat.not_lt_zero _)⟩⟩
 case round =>
  obtain ⟨kk, hkk, hg, rfl, ⟨q, rfl⟩, A0⟩ := hrel
  by_cases hlt : kk < P.length
  ·have hltz : (kk : Int) < (P.length : Int) := by omega
   have z1 : decide ((kk : Int) < (P.length : Int)) = true := decide_eq_true hltz
   have z2 : decide (kk < P.length) = true := decide_eq_true hlt
   exact absurd hlt (by omega)
  ·have z1 : decide ((kk : Int) < (P.length : Int)) = false := decide_eq_false (by omega)
   have z2 : decide (kk < P.length) = false := decide_eq_false hlt
   have hkl : kk = P.length := by omega
   subst hkl
   have h9 : P.all (inB 0 60) = true := all_to A0.out
   clear A0
   cases e8 : (N.toList == ([] : List UInt8))
   ·have e9 : N.toList.isEmpty = false := by cases h : N.toList with | nil => (first | rfl | (rw [h] at e8; cases e8)) | cons _ _ => (first | rfl | (rw [h] at e8; cases e8))
    go_wp2_with (first | ((with_reducible refine gate_dst (N := 1) rfl ?_); refine box_event ?hg (N := 1) ?hd (cs := #[.int .i64 6, .int .i64 D, .int .i64 C, .slice A0 P.length c0, .string N, .string T]) (t := 24) ?hr ?_; (case hd => rfl); (case hg => rfl); (case hr => first | (go_simp; done) | (go_simp; rfl)); intro gb hg w5 hbox hb; have BK := Aside0.mk hbox; have HB := Aside0.mk hb; obtain ⟨hz0, hz1, hz2, hz3, hz4, hz5⟩ := Sq.c6 hbox; clear hb hbox hg) | (go_at_call 37; refine (l01In_calls _ _ _ _).mono ?_; rintro e w' ⟨rfl, ⟨q_, rfl⟩⟩) | (go_at_call 38; refine (spec_l01Tag.calls k _ _ _ HT.out).mono ?_; rintro e w' ⟨rfl, ⟨q_, rfl⟩⟩))
    go_ret
    exact ⟨by first | rfl | (simp [okB, cfgK, pathK, nameK, textK, *]; done), by repeat (first | exact HB.out | apply pw_below_drewN | apply below_drew1)⟩
   ·have e9 : N.toList.isEmpty = true := by cases h : N.toList with | nil => (first | rfl | (rw [h] at e8; cases e8)) | cons _ _ => (first | rfl | (rw [h] at e8; cases e8))
    go_wp2_with (first | ((with_reducible refine gate_dst (N := 1) rfl ?_); refine box_event ?hg (N := 1) ?hd (cs := #[.int .i64 6, .int .i64 D, .int .i64 C, .slice A0 P.length c0, .string N, .string T]) (t := 24) ?hr ?_; (case hd => rfl); (case hg => rfl); (case hr => first | (go_simp; done) | (go_simp; rfl)); intro gb hg w5 hbox hb; have BK := Aside0.mk hbox; have HB := Aside0.mk hb; obtain ⟨hz0, hz1, hz2, hz3, hz4, hz5⟩ := Sq.c6 hbox; clear hb hbox hg) | (go_at_call 37; refine (l01In_calls _ _ _ _).mono ?_; rintro e w' ⟨rfl, ⟨q_, rfl⟩⟩) | (go_at_call 38; refine (spec_l01Tag.calls k _ _ _ HT.out).mono ?_; rintro e w' ⟨rfl, ⟨q_, rfl⟩⟩))
    go_ret
    exact ⟨by first | rfl | (simp [okB, cfgK, pathK, nameK, textK, *]; done), by repeat (first | exact HB.out | apply pw_below_drewN | apply below_drew1)⟩
set_option maxHeartbeats 4000000 in
set_option maxRecDepth 100000 in
theorem call_7 (k : Nat) (D C : Int) (A0 : Option Addr) (c0 : Nat) (P : List Int) (N T : ByteArray) (t : Bool) (w : World) (hr : Kd.C (Kd.int .i64) w A0 P.length P) (ht : spec_l01Tag.f k N = some t) :
  Calls Tryz.prog 20 #[.agg #[.int .i64 7, .int .i64 D, .int .i64 C, .slice A0 P.length c0, .string N, .string T]] w fun e w' => e = .returned (.bool (okB 7 D C P N T t)) ∧ Below w.heap.size w w' := by
 have hu24 := Tryz.underlying24
 have HR := Aside0.mk hr
 have HT := Aside0.mk ht
 have hbig : P.length ≤ 9223372036854775807 := Kd.C_max hr
 clear hr ht
 have i19 : inB 1 9 7 = true := rfl
 cases i05 : inB 0 5 D
 case false =>
  go_enter Tryz.func20, Tryz.ntmps20
  go_wp2_with (first | ((with_reducible refine gate_dst (N := 1) rfl ?_); refine box_event ?hg (N := 1) ?hd (cs := #[.int .i64 7, .int .i64 D, .int .i64 C, .slice A0 P.length c0, .string N, .string T]) (t := 24) ?hr ?_; (case hd => rfl); (case hg => rfl); (case hr => first | (go_simp; done) | (go_simp; rfl)); intro gb hg w5 hbox hb; have BK := Aside0.mk hbox; have HB := Aside0.mk hb; obtain ⟨hz0, hz1, hz2, hz3, hz4, hz5⟩ := Sq.c6 hbox; clear hb hbox hg) | (go_at_call 37; refine (l01In_calls _ _ _ _).mono ?_; rintro e w' ⟨rfl, ⟨q_, rfl⟩⟩) | (go_at_call 38; refine (spec_l01Tag.calls k _ _ _ HT.out).mono ?_; rintro e w' ⟨rfl, ⟨q_, rfl⟩⟩))
  go_ret
  exact ⟨by first | rfl | (simp [okB, cfgK, pathK, nameK, textK, *]; done), by repeat (first | exact HB.out | apply pw_below_drewN | apply below_drew1)⟩
 by_cases c10 : P.length ≤ 10
 case neg =>
  have d1 : decide ((10 : Int) < (P.length : Int)) = true := decide_eq_true (by omega)
  have d2 : decide (10 < P.length) = true := decide_eq_true (by omega)
  go_enter Tryz.func20, Tryz.ntmps20
  go_wp2_with (first | ((with_reducible refine gate_dst (N := 1) rfl ?_); refine box_event ?hg (N := 1) ?hd (cs := #[.int .i64 7, .int .i64 D, .int .i64 C, .slice A0 P.length c0, .string N, .string T]) (t := 24) ?hr ?_; (case hd => rfl); (case hg => rfl); (case hr => first | (go_simp; done) | (go_simp; rfl)); intro gb hg w5 hbox hb; have BK := Aside0.mk hbox; have HB := Aside0.mk hb; obtain ⟨hz0, hz1, hz2, hz3, hz4, hz5⟩ := Sq.c6 hbox; clear hb hbox hg) | (go_at_call 37; refine (l01In_calls _ _ _ _).mono ?_; rintro e w' ⟨rfl, ⟨q_, rfl⟩⟩) | (go_at_call 38; refine (spec_l01Tag.calls k _ _ _ HT.out).mono ?_; rintro e w' ⟨rfl, ⟨q_, rfl⟩⟩))
  go_ret
  exact ⟨by first | rfl | (simp [okB, cfgK, pathK, nameK, textK, *]; done), by repeat (first | exact HB.out | apply pw_below_drewN | apply below_drew1)⟩
 have d1 : decide ((10 : Int) < (P.length : Int)) = false := decide_eq_false (by omega)
 have d2 : decide (10 < P.length) = false := decide_eq_false (by omega)
 by_cases c40 : T.size ≤ 4096
 case neg =>
  have d3 : decide ((4096 : Int) < (T.size : Int)) = true := decide_eq_true (by omega)
  have d4 : decide (4096 < T.size) = true := decide_eq_true (by omega)
  go_enter Tryz.func20, Tryz.ntmps20
  go_wp2_with (first | ((with_reducible refine gate_dst (N := 1) rfl ?_); refine box_event ?hg (N := 1) ?hd (cs := #[.int .i64 7, .int .i64 D, .int .i64 C, .slice A0 P.length c0, .string N, .string T]) (t := 24) ?hr ?_; (case hd => rfl); (case hg => rfl); (case hr => first | (go_simp; done) | (go_simp; rfl)); intro gb hg w5 hbox hb; have BK := Aside0.mk hbox; have HB := Aside0.mk hb; obtain ⟨hz0, hz1, hz2, hz3, hz4, hz5⟩ := Sq.c6 hbox; clear hb hbox hg) | (go_at_call 37; refine (l01In_calls _ _ _ _).mono ?_; rintro e w' ⟨rfl, ⟨q_, rfl⟩⟩) | (go_at_call 38; refine (spec_l01Tag.calls k _ _ _ HT.out).mono ?_; rintro e w' ⟨rfl, ⟨q_, rfl⟩⟩))
  go_ret
  exact ⟨by first | rfl | (simp [okB, cfgK, pathK, nameK, textK, *]; done), by repeat (first | exact HB.out | apply pw_below_drewN | apply below_drew1)⟩
 have d3 : decide ((4096 : Int) < (T.size : Int)) = false := decide_eq_false (by omega)
 have d4 : decide (4096 < T.size) = false := decide_eq_false (by omega)
 cases i03 : C == 0
 case false =>
  have i03' : (C != 0) = true := by rw [bne, i03]; rfl
  go_enter Tryz.func20, Tryz.ntmps20
  go_wp2_with (first | ((with_reducible refine gate_dst (N := 1) rfl ?_); refine box_event ?hg (N := 1) ?hd (cs := #[.int .i64 7, .int .i64 D, .int .i64 C, .slice A0 P.length c0, .string N, .string T]) (t := 24) ?hr ?_; (case hd => rfl); (case hg => rfl); (case hr => first | (go_simp; done) | (go_simp; rfl)); intro gb hg w5 hbox hb; have BK := Aside0.mk hbox; have HB := Aside0.mk hb; obtain ⟨hz0, hz1, hz2, hz3, hz4, hz5⟩ := Sq.c6 hbox; clear hb hbox hg) | (go_at_call 37; refine (l01In_calls _ _ _ _).mono ?_; rintro e w' ⟨rfl, ⟨q_, rfl⟩⟩) | (go_at_call 38; refine (spec_l01Tag.calls k _ _ _ HT.out).mono ?_; rintro e w' ⟨rfl, ⟨q_, rfl⟩⟩))
  go_ret
  exact ⟨by first | rfl | (simp [okB, cfgK, pathK, nameK, textK, *]; done), by repeat (first | exact HB.out | apply pw_below_drewN | apply below_drew1)⟩
 have i03' : (C != 0) = false := by rw [bne, i03]; rfl
 by_cases c0p : P.length ≤ 0
 case neg =>
  have d5 : decide ((0 : Int) < (P.length : Int)) = true := decide_eq_true (by omega)
  have d6 : decide (0 < P.length) = true := decide_eq_true (by omega)
  have d7 : P.isEmpty = false := by cases P with | nil => simp at c0p | cons _ _ => rfl
  go_enter Tryz.func20, Tryz.ntmps20
  go_wp2_with (first | ((with_reducible refine gate_dst (N := 1) rfl ?_); refine box_event ?hg (N := 1) ?hd (cs := #[.int .i64 7, .int .i64 D, .int .i64 C, .slice A0 P.length c0, .string N, .string T]) (t := 24) ?hr ?_; (case hd => rfl); (case hg => rfl); (case hr => first | (go_simp; done) | (go_simp; rfl)); intro gb hg w5 hbox hb; have BK := Aside0.mk hbox; have HB := Aside0.mk hb; obtain ⟨hz0, hz1, hz2, hz3, hz4, hz5⟩ := Sq.c6 hbox; clear hb hbox hg) | (go_at_call 37; refine (l01In_calls _ _ _ _).mono ?_; rintro e w' ⟨rfl, ⟨q_, rfl⟩⟩) | (go_at_call 38; refine (spec_l01Tag.calls k _ _ _ HT.out).mono ?_; rintro e w' ⟨rfl, ⟨q_, rfl⟩⟩))
  go_ret
  exact ⟨by first | rfl | (simp [okB, cfgK, pathK, nameK, textK, *]; done), by repeat (first | exact HB.out | apply pw_below_drewN | apply below_drew1)⟩
 have d5 : decide ((0 : Int) < (P.length : Int)) = false := decide_eq_false (by omega)
 have d6 : decide (0 < P.length) = false := decide_eq_false (by omega)
 have d7 : P.isEmpty = true := by cases P with | nil => rfl | cons _ _ => simp at c0p
 go_enter Tryz.func20, Tryz.ntmps20
 go_wp2_with (first | ((with_reducible refine gate_dst (N := 1) rfl ?_); refine box_event ?hg (N := 1) ?hd (cs := #[.int .i64 7, .int .i64 D, .int .i64 C, .slice A0 P.length c0, .string N, .string T]) (t := 24) ?hr ?_; (case hd => rfl); (case hg => rfl); (case hr => first | (go_simp; done) | (go_simp; rfl)); intro gb hg w5 hbox hb; have BK := Aside0.mk hbox; have HB := Aside0.mk hb; obtain ⟨hz0, hz1, hz2, hz3, hz4, hz5⟩ := Sq.c6 hbox; clear hb hbox hg) | (go_at_call 37; refine (l01In_calls _ _ _ _).mono ?_; rintro e w' ⟨rfl, ⟨q_, rfl⟩⟩) | (go_at_call 38; refine (spec_l01Tag.calls k _ _ _ HT.out).mono ?_; rintro e w' ⟨rfl, ⟨q_, rfl⟩⟩))
 go_loopg [7] P.length (fun gg s7 wr => ∃ kk : Nat, kk ≤ P.length ∧ P.length - kk ≤ gg ∧ s7 = .int .i64 kk ∧ Drawn0 w5 wr ∧ Aside0 (∀ j, j < kk → inB 0 60 (rd P (j : Int)) = true))
 case atStart => exact ⟨0, Nat.zero_le _, by omega, rfl, by repeat (first | exact Drawn0.refl _ | apply Drawn0.step), ⟨fun j hj => absurd hj (Nat.not_lt_zero _)⟩⟩
 case round =>
  obtain ⟨kk, hkk, hg, rfl, ⟨q, rfl⟩, A0⟩ := hrel
  by_cases hlt : kk < P.length
  ·have hltz : (kk : Int) < (P.length : Int) := by omega
   have z1 : decide ((kk : Int) < (P.length : Int)) = true := decide_eq_true hltz
   have z2 : decide (kk < P.length) = true := decide_eq_true hlt
   exact absurd hlt (by omega)
  ·have z1 : decide ((kk : Int) < (P.length : Int)) = false := decide_eq_false (by omega)
   have z2 : decide (kk < P.length) = false := decide_eq_false hlt
   have hkl : kk = P.length := by omega
   subst hkl
   have h9 : P.all (inB 0 60) = true := all_to A0.out
   clear A0
   cases e8 : (N.toList == ([] : List UInt8))
   ·have e9 : N.toList.isEmpty = false := by cases h : N.toList with | nil => (first | rfl | (rw [h] at e8; cases e8)) | cons _ _ => (first | rfl | (rw [h] at e8; cases e8))
    go_wp2_with (first | ((with_reducible refine gate_dst (N := 1) rfl ?_); refine box_event ?hg (N := 1) ?hd (cs := #[.int .i64 7, .int .i64 D, .int .i64 C, .slice A0 P.length c0, .string N, .string T]) (t := 24) ?hr ?_; (case hd => rfl); (case hg => rfl); (case hr => first | (go_simp; done) | (go_simp; rfl)); intro gb hg w5 hbox hb; have BK := Aside0.mk hbox; have HB := Aside0.mk hb; obtain ⟨hz0, hz1, hz2, hz3, hz4, hz5⟩ := Sq.c6 hbox; clear hb hbox hg) | (go_at_call 37; refine (l01In_calls _ _ _ _).mono ?_; rintro e w' ⟨rfl, ⟨q_, rfl⟩⟩) | (go_at_call 38; refine (spec_l01Tag.calls k _ _ _ HT.out).mono ?_; rintro e w' ⟨rfl, ⟨q_, rfl⟩⟩))
    go_ret
    exact ⟨by first | rfl | (simp [okB, cfgK, pathK, nameK, textK, *]; done), by repeat (first | exact HB.out | apply pw_below_drewN | apply below_drew1)⟩
   ·have e9 : N.toList.isEmpty = true := by cases h : N.toList with | nil => (first | rfl | (rw [h] at e8; cases e8)) | cons _ _ => (first | rfl | (rw [h] at e8; cases e8))
    go_wp2_with (first | ((with_reducible refine gate_dst (N := 1) rfl ?_); refine box_event ?hg (N := 1) ?hd (cs := #[.int .i64 7, .int .i64 D, .int .i64 C, .slice A0 P.length c0, .string N, .string T]) (t := 24) ?hr ?_; (case hd => rfl); (case hg => rfl); (case hr => first | (go_simp; done) | (go_simp; rfl)); intro gb hg w5 hbox hb; have BK := Aside0.mk hbox; have HB := Aside0.mk hb; obtain ⟨hz0, hz1, hz2, hz3, hz4, hz5⟩ := Sq.c6 hbox; clear hb hbox hg) | (go_at_call 37; refine (l01In_calls _ _ _ _).mono ?_; rintro e w' ⟨rfl, ⟨q_, rfl⟩⟩) | (go_at_call 38; refine (spec_l01Tag.calls k _ _ _ HT.out).mono ?_; rintro e w' ⟨rfl, ⟨q_, rfl⟩⟩))
    go_ret
    exact ⟨by first | rfl | (simp [okB, cfgK, pathK, nameK, textK, *]; done), by repeat (first | exact HB.out | apply pw_below_drewN | apply below_drew1)⟩
set_option maxHeartbeats 4000000 in
set_option maxRecDepth 100000 in
theorem call_8 (k : Nat) (D C : Int) (A0 : Option Addr) (c0 : Nat) (P : List Int) (N T : ByteArray) (t : Bool) (w : World) (hr : Kd.C (Kd.int .i64) w A0 P.length P) (ht : spec_l01Tag.f k N = some t) :
  Calls Tryz.prog 20 #[.agg #[.int .i64 8, .int .i64 D, .int .i64 C, .slice A0 P.length c0, .string N, .string T]] w fun e w' => e = .returned (.bool (okB 8 D C P N T t)) ∧ Below w.heap.size w w' := by
 have hu24 := Tryz.underlying24
 have HR := Aside0.mk hr
 have HT := Aside0.mk ht
 have hbig : P.length ≤ 9223372036854775807 := Kd.C_max hr
 clear hr ht
 have i19 : inB 1 9 8 = true := rfl
 cases i05 : inB 0 5 D
 case false =>
  go_enter Tryz.func20, Tryz.ntmps20
  go_wp2_with (first | ((with_reducible refine gate_dst (N := 1) rfl ?_); refine box_event ?hg (N := 1) ?hd (cs := #[.int .i64 8, .int .i64 D, .int .i64 C, .slice A0 P.length c0, .string N, .string T]) (t := 24) ?hr ?_; (case hd => rfl); (case hg => rfl); (case hr => first | (go_simp; done) | (go_simp; rfl)); intro gb hg w5 hbox hb; have BK := Aside0.mk hbox; have HB := Aside0.mk hb; obtain ⟨hz0, hz1, hz2, hz3, hz4, hz5⟩ := Sq.c6 hbox; clear hb hbox hg) | (go_at_call 37; refine (l01In_calls _ _ _ _).mono ?_; rintro e w' ⟨rfl, ⟨q_, rfl⟩⟩) | (go_at_call 38; refine (spec_l01Tag.calls k _ _ _ HT.out).mono ?_; rintro e w' ⟨rfl, ⟨q_, rfl⟩⟩))
  go_ret
  exact ⟨by first | rfl | (simp [okB, cfgK, pathK, nameK, textK, *]; done), by repeat (first | exact HB.out | apply pw_below_drewN | apply below_drew1)⟩
 by_cases c10 : P.length ≤ 10
 case neg =>
  have d1 : decide ((10 : Int) < (P.length : Int)) = true := decide_eq_true (by omega)
  have d2 : decide (10 < P.length) = true := decide_eq_true (by omega)
  go_enter Tryz.func20, Tryz.ntmps20
  go_wp2_with (first | ((with_reducible refine gate_dst (N := 1) rfl ?_); refine box_event ?hg (N := 1) ?hd (cs := #[.int .i64 8, .int .i64 D, .int .i64 C, .slice A0 P.length c0, .string N, .string T]) (t := 24) ?hr ?_; (case hd => rfl); (case hg => rfl); (case hr => first | (go_simp; done) | (go_simp; rfl)); intro gb hg w5 hbox hb; have BK := Aside0.mk hbox; have HB := Aside0.mk hb; obtain ⟨hz0, hz1, hz2, hz3, hz4, hz5⟩ := Sq.c6 hbox; clear hb hbox hg) | (go_at_call 37; refine (l01In_calls _ _ _ _).mono ?_; rintro e w' ⟨rfl, ⟨q_, rfl⟩⟩) | (go_at_call 38; refine (spec_l01Tag.calls k _ _ _ HT.out).mono ?_; rintro e w' ⟨rfl, ⟨q_, rfl⟩⟩))
  go_ret
  exact ⟨by first | rfl | (simp [okB, cfgK, pathK, nameK, textK, *]; done), by repeat (first | exact HB.out | apply pw_below_drewN | apply below_drew1)⟩
 have d1 : decide ((10 : Int) < (P.length : Int)) = false := decide_eq_false (by omega)
 have d2 : decide (10 < P.length) = false := decide_eq_false (by omega)
 by_cases c40 : T.size ≤ 4096
 case neg =>
  have d3 : decide ((4096 : Int) < (T.size : Int)) = true := decide_eq_true (by omega)
  have d4 : decide (4096 < T.size) = true := decide_eq_true (by omega)
  go_enter Tryz.func20, Tryz.ntmps20
  go_wp2_with (first | ((with_reducible refine gate_dst (N := 1) rfl ?_); refine box_event ?hg (N := 1) ?hd (cs := #[.int .i64 8, .int .i64 D, .int .i64 C, .slice A0 P.length c0, .string N, .string T]) (t := 24) ?hr ?_; (case hd => rfl); (case hg => rfl); (case hr => first | (go_simp; done) | (go_simp; rfl)); intro gb hg w5 hbox hb; have BK := Aside0.mk hbox; have HB := Aside0.mk hb; obtain ⟨hz0, hz1, hz2, hz3, hz4, hz5⟩ := Sq.c6 hbox; clear hb hbox hg) | (go_at_call 37; refine (l01In_calls _ _ _ _).mono ?_; rintro e w' ⟨rfl, ⟨q_, rfl⟩⟩) | (go_at_call 38; refine (spec_l01Tag.calls k _ _ _ HT.out).mono ?_; rintro e w' ⟨rfl, ⟨q_, rfl⟩⟩))
  go_ret
  exact ⟨by first | rfl | (simp [okB, cfgK, pathK, nameK, textK, *]; done), by repeat (first | exact HB.out | apply pw_below_drewN | apply below_drew1)⟩
 have d3 : decide ((4096 : Int) < (T.size : Int)) = false := decide_eq_false (by omega)
 have d4 : decide (4096 < T.size) = false := decide_eq_false (by omega)
 cases i03 : inB 0 3 C
 case false =>
  go_enter Tryz.func20, Tryz.ntmps20
  go_wp2_with (first | ((with_reducible refine gate_dst (N := 1) rfl ?_); refine box_event ?hg (N := 1) ?hd (cs := #[.int .i64 8, .int .i64 D, .int .i64 C, .slice A0 P.length c0, .string N, .string T]) (t := 24) ?hr ?_; (case hd => rfl); (case hg => rfl); (case hr => first | (go_simp; done) | (go_simp; rfl)); intro gb hg w5 hbox hb; have BK := Aside0.mk hbox; have HB := Aside0.mk hb; obtain ⟨hz0, hz1, hz2, hz3, hz4, hz5⟩ := Sq.c6 hbox; clear hb hbox hg) | (go_at_call 37; refine (l01In_calls _ _ _ _).mono ?_; rintro e w' ⟨rfl, ⟨q_, rfl⟩⟩) | (go_at_call 38; refine (spec_l01Tag.calls k _ _ _ HT.out).mono ?_; rintro e w' ⟨rfl, ⟨q_, rfl⟩⟩))
  go_ret
  exact ⟨by first | rfl | (simp [okB, cfgK, pathK, nameK, textK, *]; done), by repeat (first | exact HB.out | apply pw_below_drewN | apply below_drew1)⟩
 by_cases c0p : P.length ≤ 0
 case neg =>
  have d5 : decide ((0 : Int) < (P.length : Int)) = true := decide_eq_true (by omega)
  have d6 : decide (0 < P.length) = true := decide_eq_true (by omega)
  have d7 : P.isEmpty = false := by cases P with | nil => simp at c0p | cons _ _ => rfl
  go_enter Tryz.func20, Tryz.ntmps20
  go_wp2_with (first | ((with_reducible refine gate_dst (N := 1) rfl ?_); refine box_event ?hg (N := 1) ?hd (cs := #[.int .i64 8, .int .i64 D, .int .i64 C, .slice A0 P.length c0, .string N, .string T]) (t := 24) ?hr ?_; (case hd => rfl); (case hg => rfl); (case hr => first | (go_simp; done) | (go_simp; rfl)); intro gb hg w5 hbox hb; have BK := Aside0.mk hbox; have HB := Aside0.mk hb; obtain ⟨hz0, hz1, hz2, hz3, hz4, hz5⟩ := Sq.c6 hbox; clear hb hbox hg) | (go_at_call 37; refine (l01In_calls _ _ _ _).mono ?_; rintro e w' ⟨rfl, ⟨q_, rfl⟩⟩) | (go_at_call 38; refine (spec_l01Tag.calls k _ _ _ HT.out).mono ?_; rintro e w' ⟨rfl, ⟨q_, rfl⟩⟩))
  go_ret
  exact ⟨by first | rfl | (simp [okB, cfgK, pathK, nameK, textK, *]; done), by repeat (first | exact HB.out | apply pw_below_drewN | apply below_drew1)⟩
 have d5 : decide ((0 : Int) < (P.length : Int)) = false := decide_eq_false (by omega)
 have d6 : decide (0 < P.length) = false := decide_eq_false (by omega)
 have d7 : P.isEmpty = true := by cases P with | nil => rfl | cons _ _ => simp at c0p
 cases e5 : (T.toList == ([] : List UInt8))
 case false =>
  have e6 : (T.toList != ([] : List UInt8)) = true := by rw [bne, e5]; rfl
  have e7 : T.toList.isEmpty = false := by cases h : T.toList with | nil => rw [h] at e5; cases e5 | cons _ _ => rfl
  go_enter Tryz.func20, Tryz.ntmps20
  go_wp2_with (first | ((with_reducible refine gate_dst (N := 1) rfl ?_); refine box_event ?hg (N := 1) ?hd (cs := #[.int .i64 8, .int .i64 D, .int .i64 C, .slice A0 P.length c0, .string N, .string T]) (t := 24) ?hr ?_; (case hd => rfl); (case hg => rfl); (case hr => first | (go_simp; done) | (go_simp; rfl)); intro gb hg w5 hbox hb; have BK := Aside0.mk hbox; have HB := Aside0.mk hb; obtain ⟨hz0, hz1, hz2, hz3, hz4, hz5⟩ := Sq.c6 hbox; clear hb hbox hg) | (go_at_call 37; refine (l01In_calls _ _ _ _).mono ?_; rintro e w' ⟨rfl, ⟨q_, rfl⟩⟩) | (go_at_call 38; refine (spec_l01Tag.calls k _ _ _ HT.out).mono ?_; rintro e w' ⟨rfl, ⟨q_, rfl⟩⟩))
  go_ret
  exact ⟨by first | rfl | (simp [okB, cfgK, pathK, nameK, textK, *]; done), by repeat (first | exact HB.out | apply pw_below_drewN | apply below_drew1)⟩
 have e6 : (T.toList != ([] : List UInt8)) = false := by rw [bne, e5]; rfl
 have e7 : T.toList.isEmpty = true := by cases h : T.toList with | nil => rfl | cons _ _ => rw [h] at e5; cases e5
 go_enter Tryz.func20, Tryz.ntmps20
 go_wp2_with (first | ((with_reducible refine gate_dst (N := 1) rfl ?_); refine box_event ?hg (N := 1) ?hd (cs := #[.int .i64 8, .int .i64 D, .int .i64 C, .slice A0 P.length c0, .string N, .string T]) (t := 24) ?hr ?_; (case hd => rfl); (case hg => rfl); (case hr => first | (go_simp; done) | (go_simp; rfl)); intro gb hg w5 hbox hb; have BK := Aside0.mk hbox; have HB := Aside0.mk hb; obtain ⟨hz0, hz1, hz2, hz3, hz4, hz5⟩ := Sq.c6 hbox; clear hb hbox hg) | (go_at_call 37; refine (l01In_calls _ _ _ _).mono ?_; rintro e w' ⟨rfl, ⟨q_, rfl⟩⟩) | (go_at_call 38; refine (spec_l01Tag.calls k _ _ _ HT.out).mono ?_; rintro e w' ⟨rfl, ⟨q_, rfl⟩⟩))
 go_loopg [7] P.length (fun gg s7 wr => ∃ kk : Nat, kk ≤ P.length ∧ P.length - kk ≤ gg ∧ s7 = .int .i64 kk ∧ Drawn0 w5 wr ∧ Aside0 (∀ j, j < kk → inB 0 60 (rd P (j : Int)) = true))
 case atStart => exact ⟨0, Nat.zero_le _, by omega, rfl, by repeat (first | exact Drawn0.refl _ | apply Drawn0.step), ⟨fun j hj => absurd hj (Nat.not_lt_zero _)⟩⟩
 case round =>
  obtain ⟨kk, hkk, hg, rfl, ⟨q, rfl⟩, A0⟩ := hrel
  by_cases hlt : kk < P.length
  ·have hltz : (kk : Int) < (P.length : Int) := by omega
   have z1 : decide ((kk : Int) < (P.length : Int)) = true := decide_eq_true hltz
   have z2 : decide (kk < P.length) = true := decide_eq_true hlt
   exact absurd hlt (by omega)
  ·have z1 : decide ((kk : Int) < (P.length : Int)) = false := decide_eq_false (by omega)
   have z2 : decide (kk < P.length) = false := decide_eq_false hlt
   have hkl : kk = P.length := by omega
   subst hkl
   have h9 : P.all (inB 0 60) = true := all_to A0.out
   clear A0
   cases e8 : (N.toList == ([] : List UInt8))
   ·have e9 : N.toList.isEmpty = false := by cases h : N.toList with | nil => (first | rfl | (rw [h] at e8; cases e8)) | cons _ _ => (first | rfl | (rw [h] at e8; cases e8))
    go_wp2_with (first | ((with_reducible refine gate_dst (N := 1) rfl ?_); refine box_event ?hg (N := 1) ?hd (cs := #[.int .i64 8, .int .i64 D, .int .i64 C, .slice A0 P.length c0, .string N, .string T]) (t := 24) ?hr ?_; (case hd => rfl); (case hg => rfl); (case hr => first | (go_simp; done) | (go_simp; rfl)); intro gb hg w5 hbox hb; have BK := Aside0.mk hbox; have HB := Aside0.mk hb; obtain ⟨hz0, hz1, hz2, hz3, hz4, hz5⟩ := Sq.c6 hbox; clear hb hbox hg) | (go_at_call 37; refine (l01In_calls _ _ _ _).mono ?_; rintro e w' ⟨rfl, ⟨q_, rfl⟩⟩) | (go_at_call 38; refine (spec_l01Tag.calls k _ _ _ HT.out).mono ?_; rintro e w' ⟨rfl, ⟨q_, rfl⟩⟩))
    go_ret
    exact ⟨by first | rfl | (simp [okB, cfgK, pathK, nameK, textK, *]; done), by repeat (first | exact HB.out | apply pw_below_drewN | apply below_drew1)⟩
   ·have e9 : N.toList.isEmpty = true := by cases h : N.toList with | nil => (first | rfl | (rw [h] at e8; cases e8)) | cons _ _ => (first | rfl | (rw [h] at e8; cases e8))
    go_wp2_with (first | ((with_reducible refine gate_dst (N := 1) rfl ?_); refine box_event ?hg (N := 1) ?hd (cs := #[.int .i64 8, .int .i64 D, .int .i64 C, .slice A0 P.length c0, .string N, .string T]) (t := 24) ?hr ?_; (case hd => rfl); (case hg => rfl); (case hr => first | (go_simp; done) | (go_simp; rfl)); intro gb hg w5 hbox hb; have BK := Aside0.mk hbox; have HB := Aside0.mk hb; obtain ⟨hz0, hz1, hz2, hz3, hz4, hz5⟩ := Sq.c6 hbox; clear hb hbox hg) | (go_at_call 37; refine (l01In_calls _ _ _ _).mono ?_; rintro e w' ⟨rfl, ⟨q_, rfl⟩⟩) | (go_at_call 38; refine (spec_l01Tag.calls k _ _ _ HT.out).mono ?_; rintro e w' ⟨rfl, ⟨q_, rfl⟩⟩))
    go_ret
    exact ⟨by first | rfl | (simp [okB, cfgK, pathK, nameK, textK, *]; done), by repeat (first | exact HB.out | apply pw_below_drewN | apply below_drew1)⟩
set_option maxHeartbeats 4000000 in
set_option maxRecDepth 100000 in
theorem call_9 (k : Nat) (D C : Int) (A0 : Option Addr) (c0 : Nat) (P : List Int) (N T : ByteArray) (t : Bool) (w : World) (hr : Kd.C (Kd.int .i64) w A0 P.length P) (ht : spec_l01Tag.f k N = some t) :
  Calls Tryz.prog 20 #[.agg #[.int .i64 9, .int .i64 D, .int .i64 C, .slice A0 P.length c0, .string N, .string T]] w fun e w' => e = .returned (.bool (okB 9 D C P N T t)) ∧ Below w.heap.size w w' := by
 have hu24 := Tryz.underlying24
 have HR := Aside0.mk hr
 have HT := Aside0.mk ht
 have hbig : P.length ≤ 9223372036854775807 := Kd.C_max hr
 clear hr ht
 have i19 : inB 1 9 9 = true := rfl
 cases i05 : inB 0 5 D
 case false =>
  go_enter Tryz.func20, Tryz.ntmps20
  go_wp2_with (first | ((with_reducible refine gate_dst (N := 1) rfl ?_); refine box_event ?hg (N := 1) ?hd (cs := #[.int .i64 9, .int .i64 D, .int .i64 C, .slice A0 P.length c0, .string N, .string T]) (t := 24) ?hr ?_; (case hd => rfl); (case hg => rfl); (case hr => first | (go_simp; done) | (go_simp; rfl)); intro gb hg w5 hbox hb; have BK := Aside0.mk hbox; have HB := Aside0.mk hb; obtain ⟨hz0, hz1, hz2, hz3, hz4, hz5⟩ := Sq.c6 hbox; clear hb hbox hg) | (go_at_call 37; refine (l01In_calls _ _ _ _).mono ?_; rintro e w' ⟨rfl, ⟨q_, rfl⟩⟩) | (go_at_call 38; refine (spec_l01Tag.calls k _ _ _ HT.out).mono ?_; rintro e w' ⟨rfl, ⟨q_, rfl⟩⟩))
  go_ret
  exact ⟨by first | rfl | (simp [okB, cfgK, pathK, nameK, textK, *]; done), by repeat (first | exact HB.out | apply pw_below_drewN | apply below_drew1)⟩
 by_cases c10 : P.length ≤ 10
 case neg =>
  have d1 : decide ((10 : Int) < (P.length : Int)) = true := decide_eq_true (by omega)
  have d2 : decide (10 < P.length) = true := decide_eq_true (by omega)
  go_enter Tryz.func20, Tryz.ntmps20
  go_wp2_with (first | ((with_reducible refine gate_dst (N := 1) rfl ?_); refine box_event ?hg (N := 1) ?hd (cs := #[.int .i64 9, .int .i64 D, .int .i64 C, .slice A0 P.length c0, .string N, .string T]) (t := 24) ?hr ?_; (case hd => rfl); (case hg => rfl); (case hr => first | (go_simp; done) | (go_simp; rfl)); intro gb hg w5 hbox hb; have BK := Aside0.mk hbox; have HB := Aside0.mk hb; obtain ⟨hz0, hz1, hz2, hz3, hz4, hz5⟩ := Sq.c6 hbox; clear hb hbox hg) | (go_at_call 37; refine (l01In_calls _ _ _ _).mono ?_; rintro e w' ⟨rfl, ⟨q_, rfl⟩⟩) | (go_at_call 38; refine (spec_l01Tag.calls k _ _ _ HT.out).mono ?_; rintro e w' ⟨rfl, ⟨q_, rfl⟩⟩))
  go_ret
  exact ⟨by first | rfl | (simp [okB, cfgK, pathK, nameK, textK, *]; done), by repeat (first | exact HB.out | apply pw_below_drewN | apply below_drew1)⟩
 have d1 : decide ((10 : Int) < (P.length : Int)) = false := decide_eq_false (by omega)
 have d2 : decide (10 < P.length) = false := decide_eq_false (by omega)
 by_cases c40 : T.size ≤ 4096
 case neg =>
  have d3 : decide ((4096 : Int) < (T.size : Int)) = true := decide_eq_true (by omega)
  have d4 : decide (4096 < T.size) = true := decide_eq_true (by omega)
  go_enter Tryz.func20, Tryz.ntmps20
  go_wp2_with (first | ((with_reducible refine gate_dst (N := 1) rfl ?_); refine box_event ?hg (N := 1) ?hd (cs := #[.int .i64 9, .int .i64 D, .int .i64 C, .slice A0 P.length c0, .string N, .string T]) (t := 24) ?hr ?_; (case hd => rfl); (case hg => rfl); (case hr => first | (go_simp; done) | (go_simp; rfl)); intro gb hg w5 hbox hb; have BK := Aside0.mk hbox; have HB := Aside0.mk hb; obtain ⟨hz0, hz1, hz2, hz3, hz4, hz5⟩ := Sq.c6 hbox; clear hb hbox hg) | (go_at_call 37; refine (l01In_calls _ _ _ _).mono ?_; rintro e w' ⟨rfl, ⟨q_, rfl⟩⟩) | (go_at_call 38; refine (spec_l01Tag.calls k _ _ _ HT.out).mono ?_; rintro e w' ⟨rfl, ⟨q_, rfl⟩⟩))
  go_ret
  exact ⟨by first | rfl | (simp [okB, cfgK, pathK, nameK, textK, *]; done), by repeat (first | exact HB.out | apply pw_below_drewN | apply below_drew1)⟩
 have d3 : decide ((4096 : Int) < (T.size : Int)) = false := decide_eq_false (by omega)
 have d4 : decide (4096 < T.size) = false := decide_eq_false (by omega)
 cases i03 : C == 0
 case false =>
  have i03' : (C != 0) = true := by rw [bne, i03]; rfl
  go_enter Tryz.func20, Tryz.ntmps20
  go_wp2_with (first | ((with_reducible refine gate_dst (N := 1) rfl ?_); refine box_event ?hg (N := 1) ?hd (cs := #[.int .i64 9, .int .i64 D, .int .i64 C, .slice A0 P.length c0, .string N, .string T]) (t := 24) ?hr ?_; (case hd => rfl); (case hg => rfl); (case hr => first | (go_simp; done) | (go_simp; rfl)); intro gb hg w5 hbox hb; have BK := Aside0.mk hbox; have HB := Aside0.mk hb; obtain ⟨hz0, hz1, hz2, hz3, hz4, hz5⟩ := Sq.c6 hbox; clear hb hbox hg) | (go_at_call 37; refine (l01In_calls _ _ _ _).mono ?_; rintro e w' ⟨rfl, ⟨q_, rfl⟩⟩) | (go_at_call 38; refine (spec_l01Tag.calls k _ _ _ HT.out).mono ?_; rintro e w' ⟨rfl, ⟨q_, rfl⟩⟩))
  go_ret
  exact ⟨by first | rfl | (simp [okB, cfgK, pathK, nameK, textK, *]; done), by repeat (first | exact HB.out | apply pw_below_drewN | apply below_drew1)⟩
 have i03' : (C != 0) = false := by rw [bne, i03]; rfl
 by_cases c0p : P.length ≤ 0
 case neg =>
  have d5 : decide ((0 : Int) < (P.length : Int)) = true := decide_eq_true (by omega)
  have d6 : decide (0 < P.length) = true := decide_eq_true (by omega)
  have d7 : P.isEmpty = false := by cases P with | nil => simp at c0p | cons _ _ => rfl
  go_enter Tryz.func20, Tryz.ntmps20
  go_wp2_with (first | ((with_reducible refine gate_dst (N := 1) rfl ?_); refine box_event ?hg (N := 1) ?hd (cs := #[.int .i64 9, .int .i64 D, .int .i64 C, .slice A0 P.length c0, .string N, .string T]) (t := 24) ?hr ?_; (case hd => rfl); (case hg => rfl); (case hr => first | (go_simp; done) | (go_simp; rfl)); intro gb hg w5 hbox hb; have BK := Aside0.mk hbox; have HB := Aside0.mk hb; obtain ⟨hz0, hz1, hz2, hz3, hz4, hz5⟩ := Sq.c6 hbox; clear hb hbox hg) | (go_at_call 37; refine (l01In_calls _ _ _ _).mono ?_; rintro e w' ⟨rfl, ⟨q_, rfl⟩⟩) | (go_at_call 38; refine (spec_l01Tag.calls k _ _ _ HT.out).mono ?_; rintro e w' ⟨rfl, ⟨q_, rfl⟩⟩))
  go_ret
  exact ⟨by first | rfl | (simp [okB, cfgK, pathK, nameK, textK, *]; done), by repeat (first | exact HB.out | apply pw_below_drewN | apply below_drew1)⟩
 have d5 : decide ((0 : Int) < (P.length : Int)) = false := decide_eq_false (by omega)
 have d6 : decide (0 < P.length) = false := decide_eq_false (by omega)
 have d7 : P.isEmpty = true := by cases P with | nil => rfl | cons _ _ => simp at c0p
 cases e5 : (T.toList == ([] : List UInt8))
 case false =>
  have e6 : (T.toList != ([] : List UInt8)) = true := by rw [bne, e5]; rfl
  have e7 : T.toList.isEmpty = false := by cases h : T.toList with | nil => rw [h] at e5; cases e5 | cons _ _ => rfl
  go_enter Tryz.func20, Tryz.ntmps20
  go_wp2_with (first | ((with_reducible refine gate_dst (N := 1) rfl ?_); refine box_event ?hg (N := 1) ?hd (cs := #[.int .i64 9, .int .i64 D, .int .i64 C, .slice A0 P.length c0, .string N, .string T]) (t := 24) ?hr ?_; (case hd => rfl); (case hg => rfl); (case hr => first | (go_simp; done) | (go_simp; rfl)); intro gb hg w5 hbox hb; have BK := Aside0.mk hbox; have HB := Aside0.mk hb; obtain ⟨hz0, hz1, hz2, hz3, hz4, hz5⟩ := Sq.c6 hbox; clear hb hbox hg) | (go_at_call 37; refine (l01In_calls _ _ _ _).mono ?_; rintro e w' ⟨rfl, ⟨q_, rfl⟩⟩) | (go_at_call 38; refine (spec_l01Tag.calls k _ _ _ HT.out).mono ?_; rintro e w' ⟨rfl, ⟨q_, rfl⟩⟩))
  go_ret
  exact ⟨by first | rfl | (simp [okB, cfgK, pathK, nameK, textK, *]; done), by repeat (first | exact HB.out | apply pw_below_drewN | apply below_drew1)⟩
 have e6 : (T.toList != ([] : List UInt8)) = false := by rw [bne, e5]; rfl
 have e7 : T.toList.isEmpty = true := by cases h : T.toList with | nil => rfl | cons _ _ => rw [h] at e5; cases e5
 go_enter Tryz.func20, Tryz.ntmps20
 go_wp2_with (first | ((with_reducible refine gate_dst (N := 1) rfl ?_); refine box_event ?hg (N := 1) ?hd (cs := #[.int .i64 9, .int .i64 D, .int .i64 C, .slice A0 P.length c0, .string N, .string T]) (t := 24) ?hr ?_; (case hd => rfl); (case hg => rfl); (case hr => first | (go_simp; done) | (go_simp; rfl)); intro gb hg w5 hbox hb; have BK := Aside0.mk hbox; have HB := Aside0.mk hb; obtain ⟨hz0, hz1, hz2, hz3, hz4, hz5⟩ := Sq.c6 hbox; clear hb hbox hg) | (go_at_call 37; refine (l01In_calls _ _ _ _).mono ?_; rintro e w' ⟨rfl, ⟨q_, rfl⟩⟩) | (go_at_call 38; refine (spec_l01Tag.calls k _ _ _ HT.out).mono ?_; rintro e w' ⟨rfl, ⟨q_, rfl⟩⟩))
 go_loopg [7] P.length (fun gg s7 wr => ∃ kk : Nat, kk ≤ P.length ∧ P.length - kk ≤ gg ∧ s7 = .int .i64 kk ∧ Drawn0 w5 wr ∧ Aside0 (∀ j, j < kk → inB 0 60 (rd P (j : Int)) = true))
 case atStart => exact ⟨0, Nat.zero_le _, by omega, rfl, by repeat (first | exact Drawn0.refl _ | apply Drawn0.step), ⟨fun j hj => absurd hj (Nat.not_lt_zero _)⟩⟩
 case round =>
  obtain ⟨kk, hkk, hg, rfl, ⟨q, rfl⟩, A0⟩ := hrel
  by_cases hlt : kk < P.length
  ·have hltz : (kk : Int) < (P.length : Int) := by omega
   have z1 : decide ((kk : Int) < (P.length : Int)) = true := decide_eq_true hltz
   have z2 : decide (kk < P.length) = true := decide_eq_true hlt
   exact absurd hlt (by omega)
  ·have z1 : decide ((kk : Int) < (P.length : Int)) = false := decide_eq_false (by omega)
   have z2 : decide (kk < P.length) = false := decide_eq_false hlt
   have hkl : kk = P.length := by omega
   subst hkl
   have h9 : P.all (inB 0 60) = true := all_to A0.out
   clear A0
   cases e8 : (N.toList == ([] : List UInt8))
   ·have e9 : N.toList.isEmpty = false := by cases h : N.toList with | nil => (first | rfl | (rw [h] at e8; cases e8)) | cons _ _ => (first | rfl | (rw [h] at e8; cases e8))
    go_wp2_with (first | ((with_reducible refine gate_dst (N := 1) rfl ?_); refine box_event ?hg (N := 1) ?hd (cs := #[.int .i64 9, .int .i64 D, .int .i64 C, .slice A0 P.length c0, .string N, .string T]) (t := 24) ?hr ?_; (case hd => rfl); (case hg => rfl); (case hr => first | (go_simp; done) | (go_simp; rfl)); intro gb hg w5 hbox hb; have BK := Aside0.mk hbox; have HB := Aside0.mk hb; obtain ⟨hz0, hz1, hz2, hz3, hz4, hz5⟩ := Sq.c6 hbox; clear hb hbox hg) | (go_at_call 37; refine (l01In_calls _ _ _ _).mono ?_; rintro e w' ⟨rfl, ⟨q_, rfl⟩⟩) | (go_at_call 38; refine (spec_l01Tag.calls k _ _ _ HT.out).mono ?_; rintro e w' ⟨rfl, ⟨q_, rfl⟩⟩))
    go_ret
    exact ⟨by first | rfl | (simp [okB, cfgK, pathK, nameK, textK, *]; done), by repeat (first | exact HB.out | apply pw_below_drewN | apply below_drew1)⟩
   ·have e9 : N.toList.isEmpty = true := by cases h : N.toList with | nil => (first | rfl | (rw [h] at e8; cases e8)) | cons _ _ => (first | rfl | (rw [h] at e8; cases e8))
    go_wp2_with (first | ((with_reducible refine gate_dst (N := 1) rfl ?_); refine box_event ?hg (N := 1) ?hd (cs := #[.int .i64 9, .int .i64 D, .int .i64 C, .slice A0 P.length c0, .string N, .string T]) (t := 24) ?hr ?_; (case hd => rfl); (case hg => rfl); (case hr => first | (go_simp; done) | (go_simp; rfl)); intro gb hg w5 hbox hb; have BK := Aside0.mk hbox; have HB := Aside0.mk hb; obtain ⟨hz0, hz1, hz2, hz3, hz4, hz5⟩ := Sq.c6 hbox; clear hb hbox hg) | (go_at_call 37; refine (l01In_calls _ _ _ _).mono ?_; rintro e w' ⟨rfl, ⟨q_, rfl⟩⟩) | (go_at_call 38; refine (spec_l01Tag.calls k _ _ _ HT.out).mono ?_; rintro e w' ⟨rfl, ⟨q_, rfl⟩⟩))
    go_ret
    exact ⟨by first | rfl | (simp [okB, cfgK, pathK, nameK, textK, *]; done), by repeat (first | exact HB.out | apply pw_below_drewN | apply below_drew1)⟩
set_option maxHeartbeats 4000000 in
set_option maxRecDepth 100000 in
theorem call_no (K D C : Int) (A0 : Option Addr) (c0 : Nat) (P : List Int) (N T : ByteArray) (w : World) (i19 : inB 1 9 K = false) :
  Calls Tryz.prog 20 #[.agg #[.int .i64 K, .int .i64 D, .int .i64 C, .slice A0 P.length c0, .string N, .string T]] w fun e w' => e = .returned (.bool false) ∧ Below w.heap.size w w' := by
 have hu24 := Tryz.underlying24
 go_enter Tryz.func20, Tryz.ntmps20
 go_wp2_with (first | ((with_reducible refine gate_dst (N := 1) rfl ?_); refine box_event ?hg (N := 1) ?hd (cs := #[.int .i64 K, .int .i64 D, .int .i64 C, .slice A0 P.length c0, .string N, .string T]) (t := 24) ?hr ?_; (case hd => rfl); (case hg => rfl); (case hr => first | (go_simp; done) | (go_simp; rfl)); intro gb hg w5 hbox hb; have BK := Aside0.mk hbox; have HB := Aside0.mk hb; obtain ⟨hz0, hz1, hz2, hz3, hz4, hz5⟩ := Sq.c6 hbox; clear hb hbox hg) | (go_at_call 37; refine (l01In_calls _ _ _ _).mono ?_; rintro e w' ⟨rfl, ⟨q_, rfl⟩⟩) | (go_at_call 38; refine (spec_l01Tag.calls k _ _ _ HT.out).mono ?_; rintro e w' ⟨rfl, ⟨q_, rfl⟩⟩))
 go_ret
 exact ⟨rfl, by repeat (first | exact HB.out | apply pw_below_drewN | apply below_drew1)⟩
theorem kinds (K : Int) (h : inB 1 9 K = true) : K = 1 ∨ K = 2 ∨ K = 3 ∨ K = 4 ∨ K = 5 ∨ K = 6 ∨ K = 7 ∨ K = 8 ∨ K = 9 := by
 simp only [inB, Bool.and_eq_true, decide_eq_true_eq] at h
 omega
theorem spec_l10Call.calls (k : Nat) (K D C : Int) (A0 : Option Addr) (c0 : Nat) (P : List Int) (N T : ByteArray) (r : Bool) (w : World) (hr : Kd.C (Kd.int .i64) w A0 P.length P) (hc : P.length ≤ c0) (h : spec_l10Call.f k K D C P N T = some r) :
  Calls Tryz.prog 20 #[.agg #[.int .i64 K, .int .i64 D, .int .i64 C, .slice A0 P.length c0, .string N, .string T]] w fun e w' => e = .returned (.bool r) ∧ Below w.heap.size w w' := by
 unfold spec_l10Call.f at h
 obtain ⟨t, ht, h⟩ := Option.bind_eq_some_iff.1 h
 obtain rfl := Option.some.inj h
 cases hk : inB 1 9 K
 ·have e : okB K D C P N T t = false := by simp only [okB, hk, Bool.false_and]
  rw [e]
  exact call_no K D C A0 c0 P N T w hk
 ·rcases kinds K hk with rfl | rfl | rfl | rfl | rfl | rfl | rfl | rfl | rfl
  ·exact call_1 k D C A0 c0 P N T t w hr ht
  ·exact call_2 k D C A0 c0 P N T t w hr ht
  ·exact call_3 k D C A0 c0 P N T t w hr ht
  ·exact call_4 k D C A0 c0 P N T t w hr ht
  ·exact call_5 k D C A0 c0 P N T t w hr ht
  ·exact call_6 k D C A0 c0 P N T t w hr ht
  ·exact call_7 k D C A0 c0 P N T t w hr ht
  ·exact call_8 k D C A0 c0 P N T t w hr ht
  ·exact call_9 k D C A0 c0 P N T t w hr ht
end Go.Proofs.YtfjnlliilnmfaaaGreatDoor.RC
end
