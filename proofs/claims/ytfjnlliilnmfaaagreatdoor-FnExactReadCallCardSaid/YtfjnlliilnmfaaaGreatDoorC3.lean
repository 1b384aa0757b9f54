/-
  WRITTEN BY wip/tools/prune.py out of this claim's texts: the declarations that the theorem comes to, and no others. In it: PRCax6.
-/
import Derived.Test.YtfjnlliilnmfaaaGreatDoorC2
section
namespace Go.Proofs.YtfjnlliilnmfaaaGreatDoor.PRCa
open Go.Proofs.YtfjnlliilnmfaaaGreatDoor.Given
open Go.RowKit Go.Proofs.YtfjnlliilnmfaaaGreatDoorW.PrintWords Go.Proofs.YtfjnlliilnmfaaaGreatDoorW.PrintLast Go.Proofs.YtfjnlliilnmfaaaGreatDoorW.PrintMore
attribute [local go_sem] max2_int min2_int max_two min_two max_three min_three max_four min_four
set_option linter.unusedVariables false
set_option linter.unusedSimpArgs false
mutual
def impl_CallOK.j0 : Nat → Bool → Int → Int → Int → List Int → ByteArray → ByteArray → Option (Bool)
  | 0, _, _, _, _, _, _, _ => none
  | k + 1, x16, x233000, x233001, x233002, x233003, x233004, x233005 => if x16 = true then (some false) else ((impl_hasName.f x233000).bind fun t235 => (if t235 = true then ((impl_TagOK.f k x233004).bind fun t236 => (impl_CallOK.j1 k t236 x233000 x233001 x233002 x233003 x233004 x233005)) else (impl_CallOK.j1 k (x233004.toList == ([] : List UInt8)) x233000 x233001 x233002 x233003 x233004 x233005)))
def impl_CallOK.j1 : Nat → Bool → Int → Int → Int → List Int → ByteArray → ByteArray → Option (Bool)
  | 0, _, _, _, _, _, _, _ => none
  | k + 1, x3, x233000, x233001, x233002, x233003, x233004, x233005 => if x233005.toList = ([] : List UInt8) then (impl_CallOK.j2 k x3 true x233000 x233001 x233002 x233003 x233004 x233005) else ((impl_hasText.f x233000).bind fun t237 => (if t237 = true then (impl_CallOK.j2 k x3 (decide ((x233005.size : Int) ≤ 4096)) x233000 x233001 x233002 x233003 x233004 x233005) else (impl_CallOK.j2 k x3 false x233000 x233001 x233002 x233003 x233004 x233005)))
def impl_CallOK.j2 : Nat → Bool → Bool → Int → Int → Int → List Int → ByteArray → ByteArray → Option (Bool)
  | 0, _, _, _, _, _, _, _, _ => none
  | k + 1, x3, x4, x233000, x233001, x233002, x233003, x233004, x233005 => if (x233003.length : Int) = 0 then (if x233002 = 0 then (if x3 = true then (if x4 = true then (some true) else (some false)) else (some false)) else ((impl_hasConfig.f x233000).bind fun t238 => (if t238 = true then ((impl_within.f x233002 0 3).bind fun t239 => (if x3 = true then (if x4 = true then (some t239) else (some false)) else (some false))) else (if x3 = true then (if x4 = true then (some false) else (some false)) else (some false))))) else ((impl_hasPath.f x233000).bind fun t240 => (if t240 = true then ((impl_isPath.f x233003).bind fun t241 => (if x233002 = 0 then (if x3 = true then (if x4 = true then (if t241 = true then (some true) else (some false)) else (some false)) else (some false)) else ((impl_hasConfig.f x233000).bind fun t242 => (if t242 = true then ((impl_within.f x233002 0 3).bind fun t243 => (if x3 = true then (if x4 = true then (if t241 = true then (some t243) else (some false)) else (some false)) else (some false))) else (if x3 = true then (if x4 = true then (if t241 = true then (some false) else (some false)) else (some false)) else (some false)))))) else (if x233002 = 0 then (if x3 = true then (if x4 = true then (some false) else (some false)) else (some false)) else ((impl_hasConfig.f x233000).bind fun t244 => (if t244 = true then ((impl_within.f x233002 0 3).bind fun t245 => (if x3 = true then (if x4 = true then (some false) else (some false)) else (some false))) else (if x3 = true then (if x4 = true then (some false) else (some false)) else (some false)))))))
end
def impl_CallOK.f (k : Nat) (a0_0 : Int) (a0_1 : Int) (a0_2 : Int) (l0_3 : List Int) (a0_4 : ByteArray) (a0_5 : ByteArray) : Option (Bool) := (impl_within.f a0_0 1 9).bind fun t233 => (if t233 = true then ((impl_within.f a0_1 0 5).bind fun t234 => (impl_CallOK.j0 k (!t234) a0_0 a0_1 a0_2 l0_3 a0_4 a0_5)) else (impl_CallOK.j0 k true a0_0 a0_1 a0_2 l0_3 a0_4 a0_5))
set_option maxHeartbeats 8000000 in
set_option maxRecDepth 100000 in
theorem impl_CallOK.calls (k : Nat) (a0_0 : Int) (a0_1 : Int) (a0_2 : Int) (A0_3 : Option Addr) (c0_3 : Nat) (l0_3 : List Int) (a0_4 : ByteArray) (a0_5 : ByteArray) (r : Bool) (w : World) (hr0_3 : Kd.C (Kd.int .i64) w A0_3 l0_3.length l0_3) (hc0_3 : l0_3.length ≤ c0_3) (h : impl_CallOK.f k a0_0 a0_1 a0_2 l0_3 a0_4 a0_5 = some r) :
  Calls Tryz.prog 33 #[.agg #[.int .i64 a0_0, .int .i64 a0_1, .int .i64 a0_2, .slice A0_3 l0_3.length c0_3, .string a0_4, .string a0_5]] w fun e w' => e = .returned (.bool r) ∧ Below w.heap.size w w' := by
 have hu24 := Tryz.underlying24
 have HR0_3 := Aside0.mk hr0_3
 have HC0_3 := Aside0.mk hc0_3
 clear hr0_3 hc0_3
 have HB := Aside0.mk (Below.refl w.heap.size w)
 have H : ((impl_within.f a0_0 1 9).bind fun t233 => (if t233 = true then ((impl_within.f a0_1 0 5).bind fun t234 => (impl_CallOK.j0 k (!t234) a0_0 a0_1 a0_2 l0_3 a0_4 a0_5)) else (impl_CallOK.j0 k true a0_0 a0_1 a0_2 l0_3 a0_4 a0_5))) = some r := h
 clear h
 have HC2 := Aside0.mk H
 clear H
 go_enter Tryz.func33, Tryz.ntmps33
 go_upto_region 1 with (first | ((with_reducible refine gate_dst (N := 1) rfl ?_); (try (refine gate_guard (by rfl) ?_; dsimp only)); refine box_event ?hg (N := 1) ?hd (cs := #[.int .i64 a0_0, .int .i64 a0_1, .int .i64 a0_2, .slice A0_3 l0_3.length c0_3, .string a0_4, .string a0_5]) (t := 24) ?hr ?_; (case hd => rfl); (case hg => rfl); (case hr => first | (go_simp; done) | (go_simp; rfl)); intro gb232 hg w3 hbox hb; have n0_ := Aside0.mk (below_step (by exact Sq.bl HB.out) hb); have n1_ := Aside0.mk (hbox); have n2_ := Aside0.mk ((by rw [hg]; exact (below_size (by exact Sq.bl HB.out)) : w.heap.size ≤ gb232)); have n3_ := Aside0.mk ((by rw [hg]; exact (below_size (by exact Sq.bl HB.out)) : w.heap.size ≤ gb232)); clear HB; have HB := n0_; have BK232 := n1_; have GW232 := n2_; have GE232 := n3_; clear n0_ n1_ n2_ n3_; clear hb hbox hg))
 (try simp only [Act.put, List.setIfInBounds_toArray, List.set_cons_zero, List.set_cons_succ])
 go_cut [16] (fun v16 wc => ∃ (kq : Nat) (x16_1 : Bool), v16 = .bool x16_1 ∧ Aside0 (impl_CallOK.j0 kq x16_1 a0_0 a0_1 a0_2 l0_3 a0_4 a0_5 = some r) ∧ Aside0 (kq ≤ k) ∧ Aside0 (wc.heap[gb232]? = some (.cells #[.int .i64 a0_0, .int .i64 a0_1, .int .i64 a0_2, (.slice A0_3 l0_3.length c0_3), .string a0_4, .string a0_5] 24 (0, 0))) ∧ Aside0 (Below w.heap.size w wc))
 case first =>
  have H := HC2.out
  clear HC2
  replace H := Option.bind_eq_some_iff.mp H
  obtain ⟨t233, A40, H⟩ := H
  try dsimp -failIfUnchanged -simprocs only at H
  have A4 := Aside0.mk A40
  clear A40
  by_cases c5 : t233 = true
  ·subst c5
   rw [if_pos rfl] at H
   try dsimp -failIfUnchanged -simprocs only at H
   replace H := Option.bind_eq_some_iff.mp H
   obtain ⟨t234, A60, H⟩ := H
   try dsimp -failIfUnchanged -simprocs only at H
   have A6 := Aside0.mk A60
   clear A60
   have H' := Aside0.mk H
   clear H
   obtain ⟨hcz7_0, hcz7_1, hcz7_2, hcz7_3, hcz7_4, hcz7_5⟩ := Sq.c6 BK232.out
   have hfz7_0 := Sq.fz BK232.out
   go_wp2_with (first | ((with_reducible refine gate_callee (f := 44) rfl ?_); refine Sq.goM (some 9) Tryz.func44 #[.int .i64 a0_0, .int .i64 1, .int .i64 9] ?_; (with_reducible refine (impl_within.calls a0_0 1 9 true _ A4.out).mono ?_); rintro e w' ⟨rfl, ⟨nd, rfl⟩⟩; refine ⟨_, rfl, ?_⟩) | (go_at_call 44; (with_reducible refine (impl_within.calls a0_1 0 5 t234 _ A6.out).mono ?_); rintro e w' ⟨rfl, ⟨nd, rfl⟩⟩))
   go_meet
   case rel => exact ⟨_, (!t234), (by first | rfl | (simp; done) | (simp [*]; done) | (generalize ByteArray.toList _ = l_; cases l_ <;> rfl)), H', ⟨by first | omega | exact Nat.le_refl _⟩, ⟨by exact Sq.bk BK232.out⟩, ⟨by repeat (first | (with_reducible first | exact HB.out | apply below_alloc | apply pw_below_drewN | apply below_drew1 | refine below_set ?_ GE232.out) | exact HB.out)⟩⟩
  ·replace c5 := Bool.eq_false_iff.mpr c5
   subst c5
   rw [if_neg (show ¬ (false = true) by decide)] at H
   try dsimp -failIfUnchanged -simprocs only at H
   have H' := Aside0.mk H
   clear H
   obtain ⟨hcz8_0, hcz8_1, hcz8_2, hcz8_3, hcz8_4, hcz8_5⟩ := Sq.c6 BK232.out
   have hfz8_0 := Sq.fz BK232.out
   go_wp2_with (first | ((with_reducible refine gate_callee (f := 44) rfl ?_); refine Sq.goM (some 9) Tryz.func44 #[.int .i64 a0_0, .int .i64 1, .int .i64 9] ?_; (with_reducible refine (impl_within.calls a0_0 1 9 false _ A4.out).mono ?_); rintro e w' ⟨rfl, ⟨nd, rfl⟩⟩; refine ⟨_, rfl, ?_⟩))
   go_meet
   case rel => exact ⟨_, (true), (by first | rfl | (simp; done) | (simp [*]; done) | (generalize ByteArray.toList _ = l_; cases l_ <;> rfl)), H', ⟨by first | omega | exact Nat.le_refl _⟩, ⟨by exact Sq.bk BK232.out⟩, ⟨by repeat (first | (with_reducible first | exact HB.out | apply below_alloc | apply pw_below_drewN | apply below_drew1 | refine below_set ?_ GE232.out) | exact HB.out)⟩⟩
 case rest =>
  clear HC2
  try clear p2
  try clear c3
  try clear c4
  try clear c5
  try clear hcz7_0
  try clear hcz7_1
  try clear hcz7_2
  try clear hcz7_3
  try clear hcz7_4
  try clear hcz7_5
  try clear hcz8_0
  try clear hcz8_1
  try clear hcz8_2
  try clear hcz8_3
  try clear hcz8_4
  try clear hcz8_5
  try clear hfz7_0
  try clear hfz8_0
  obtain ⟨kq, x16_1, rfl, HA, HJ1, BK232, HB⟩ := hcut
  cases kq with
  | zero => exact absurd HA.out (by simp [impl_CallOK.j0])
  | succ kj1 =>
   have H := HA.out
   clear HA
   simp only [impl_CallOK.j0] at H
   by_cases c9 : x16_1 = true
   ·subst c9
    rw [if_pos rfl] at H
    try dsimp -failIfUnchanged -simprocs only at H
    obtain rfl := Option.some.inj H
    go_wp2
    go_ret
    exact ⟨by first | rfl | (simp [errW_none, errW_some] <;> rfl) | (simp [*, errW_none, errW_some] <;> rfl), by repeat (first | (with_reducible first | exact HB.out | apply below_alloc | apply pw_below_drewN | apply below_drew1 | refine below_set ?_ GE232.out) | exact HB.out)⟩
   ·replace c9 := Bool.eq_false_iff.mpr c9
    subst c9
    rw [if_neg (show ¬ (false = true) by decide)] at H
    try dsimp -failIfUnchanged -simprocs only at H
    replace H := Option.bind_eq_some_iff.mp H
    obtain ⟨t235, A100, H⟩ := H
    try dsimp -failIfUnchanged -simprocs only at H
    have A10 := Aside0.mk A100
    clear A100
    have HC11 := Aside0.mk H
    clear H
    obtain ⟨hcz12_0, hcz12_1, hcz12_2, hcz12_3, hcz12_4, hcz12_5⟩ := Sq.c6 BK232.out
    have hfz12_0 := Sq.fz BK232.out
    go_upto_if 22 with (first | ((with_reducible refine gate_callee (f := 30) rfl ?_); refine Sq.goM (some 22) Tryz.func30 #[.int .i64 a0_0] ?_; (with_reducible refine (impl_hasName.calls a0_0 t235 _ A10.out).mono ?_); rintro e w' ⟨rfl, ⟨nd, rfl⟩⟩; refine ⟨_, rfl, ?_⟩))
    (try simp only [Act.put, List.setIfInBounds_toArray, List.set_cons_zero, List.set_cons_succ])
    go_cut [3] (fun v3 wc => ∃ (kq : Nat) (x3_10 : Bool), v3 = .bool x3_10 ∧ Aside0 (impl_CallOK.j1 kq x3_10 a0_0 a0_1 a0_2 l0_3 a0_4 a0_5 = some r) ∧ Aside0 (kq ≤ kj1) ∧ Aside0 (wc.heap[gb232]? = some (.cells #[.int .i64 a0_0, .int .i64 a0_1, .int .i64 a0_2, (.slice A0_3 l0_3.length c0_3), .string a0_4, .string a0_5] 24 (0, 0))) ∧ Aside0 (Below w.heap.size w wc))
    case first =>
     have H := HC11.out
     clear HC11
     by_cases c13 : t235 = true
     ·subst c13
      rw [if_pos rfl] at H
      try dsimp -failIfUnchanged -simprocs only at H
      replace H := Option.bind_eq_some_iff.mp H
      obtain ⟨t236, A140, H⟩ := H
      try dsimp -failIfUnchanged -simprocs only at H
      have A14 := Aside0.mk A140
      clear A140
      have H' := Aside0.mk H
      clear H
      obtain ⟨hcz15_0, hcz15_1, hcz15_2, hcz15_3, hcz15_4, hcz15_5⟩ := Sq.c6 BK232.out
      have hfz15_0 := Sq.fz BK232.out
      go_wp2_with (first | ((with_reducible refine gate_callee (f := 47) rfl ?_); refine Sq.goM (some 25) Tryz.func47 #[.string a0_4] ?_; (with_reducible refine (impl_TagOK.calls kj1 a0_4 t236 _ A14.out).mono ?_); rintro e w' ⟨rfl, ⟨nd, rfl⟩⟩; refine ⟨_, rfl, ?_⟩))
      go_meet
      case rel => exact ⟨_, (t236), (by first | rfl | (simp; done) | (simp [*]; done) | (generalize ByteArray.toList _ = l_; cases l_ <;> rfl)), H', ⟨by have := HJ1.out; first | omega | exact Nat.le_refl _⟩, ⟨by exact Sq.bk BK232.out⟩, ⟨by repeat (first | (with_reducible first | exact HB.out | apply below_alloc | apply pw_below_drewN | apply below_drew1 | refine below_set ?_ GE232.out) | exact HB.out)⟩⟩
     ·replace c13 := Bool.eq_false_iff.mpr c13
      subst c13
      rw [if_neg (show ¬ (false = true) by decide)] at H
      try dsimp -failIfUnchanged -simprocs only at H
      have H' := Aside0.mk H
      clear H
      go_wp2
      go_meet
      case rel => exact ⟨_, ((a0_4.toList == ([] : List UInt8))), (by first | rfl | (simp; done) | (simp [*]; done) | (generalize ByteArray.toList _ = l_; cases l_ <;> rfl)), H', ⟨by have := HJ1.out; first | omega | exact Nat.le_refl _⟩, ⟨by exact Sq.bk BK232.out⟩, ⟨by repeat (first | (with_reducible first | exact HB.out | apply below_alloc | apply pw_below_drewN | apply below_drew1 | refine below_set ?_ GE232.out) | exact HB.out)⟩⟩
    case rest =>
     clear HC11
     try clear c1
     try clear p2
     try clear c3
     try clear c4
     try clear c5
     try clear c9
     try clear c13
     try clear hcz12_0
     try clear hcz12_1
     try clear hcz12_2
     try clear hcz12_3
     try clear hcz12_4
     try clear hcz12_5
     try clear hcz15_0
     try clear hcz15_1
     try clear hcz15_2
     try clear hcz15_3
     try clear hcz15_4
     try clear hcz15_5
     try clear hcz7_0
     try clear hcz7_1
     try clear hcz7_2
     try clear hcz7_3
     try clear hcz7_4
     try clear hcz7_5
     try clear hcz8_0
     try clear hcz8_1
     try clear hcz8_2
     try clear hcz8_3
     try clear hcz8_4
     try clear hcz8_5
     try clear hfz12_0
     try clear hfz15_0
     try clear hfz7_0
     try clear hfz8_0
     try clear p2
     obtain ⟨kq, x3_10, rfl, HA, HJ10, BK232, HB⟩ := hcut
     cases kq with
     | zero => exact absurd HA.out (by simp [impl_CallOK.j1])
     | succ kj10 =>
      have H := HA.out
      clear HA
      simp only [impl_CallOK.j1] at H
      have HC16 := Aside0.mk H
      clear H
      go_upto_region 6 with (fail)
      go_cut [4] (fun v4 wc => ∃ (kq : Nat) (x4_15 : Bool), v4 = .bool x4_15 ∧ Aside0 (impl_CallOK.j2 kq x3_10 x4_15 a0_0 a0_1 a0_2 l0_3 a0_4 a0_5 = some r) ∧ Aside0 (kq ≤ kj10) ∧ Aside0 (wc.heap[gb232]? = some (.cells #[.int .i64 a0_0, .int .i64 a0_1, .int .i64 a0_2, (.slice A0_3 l0_3.length c0_3), .string a0_4, .string a0_5] 24 (0, 0))) ∧ Aside0 (Below w.heap.size w wc))
      case first =>
       have H := HC16.out
       clear HC16
       by_cases c17 : a0_5.toList = ([] : List UInt8)
       ·rw [if_pos c17] at H
        have c17b0 : (a0_5.toList == ([] : List UInt8)) = true := beq_iff_eq.mpr c17
        have c17b1 : (a0_5.toList != ([] : List UInt8)) = false := bne_eq_false_iff_eq.mpr c17
        clear c17
        (first | rw [c17b0] | (simp only [i64_w, i32_w]; rw [c17b0]) | skip)
        have H' := Aside0.mk H
        clear H
        obtain ⟨hcz18_0, hcz18_1, hcz18_2, hcz18_3, hcz18_4, hcz18_5⟩ := Sq.c6 BK232.out
        have hfz18_0 := Sq.fz BK232.out
        go_wp2
        go_meet
        case rel => exact ⟨_, (true), (by first | rfl | (simp; done) | (simp [*]; done) | (generalize ByteArray.toList _ = l_; cases l_ <;> rfl)), H', ⟨by have := HJ1.out; have := HJ10.out; first | omega | exact Nat.le_refl _⟩, ⟨by exact Sq.bk BK232.out⟩, ⟨by repeat (first | (with_reducible first | exact HB.out | apply below_alloc | apply pw_below_drewN | apply below_drew1 | refine below_set ?_ GE232.out) | exact HB.out)⟩⟩
       ·rw [if_neg c17] at H
        have c17b0 : (a0_5.toList == ([] : List UInt8)) = false := beq_eq_false_iff_ne.mpr c17
        have c17b1 : (a0_5.toList != ([] : List UInt8)) = true := bne_iff_ne.mpr c17
        (first | rw [c17b0] | (simp only [i64_w, i32_w]; rw [c17b0]) | skip)
        replace H := Option.bind_eq_some_iff.mp H
        obtain ⟨t237, A190, H⟩ := H
        try dsimp -failIfUnchanged -simprocs only at H
        have A19 := Aside0.mk A190
        clear A190
        by_cases c20 : t237 = true
        ·subst c20
         rw [if_pos rfl] at H
         try dsimp -failIfUnchanged -simprocs only at H
         have H' := Aside0.mk H
         clear H
         obtain ⟨hcz21_0, hcz21_1, hcz21_2, hcz21_3, hcz21_4, hcz21_5⟩ := Sq.c6 BK232.out
         have hfz21_0 := Sq.fz BK232.out
         go_wp2_with (first | (go_at_call 32; (with_reducible refine (impl_hasText.calls a0_0 true _ A19.out).mono ?_); rintro e w' ⟨rfl, ⟨nd, rfl⟩⟩))
         go_meet
         case rel => exact ⟨_, (decide ((a0_5.size : Int) ≤ 4096)), (by first | rfl | (simp; done) | (simp [*]; done) | (generalize ByteArray.toList _ = l_; cases l_ <;> rfl)), H', ⟨by have := HJ1.out; have := HJ10.out; first | omega | exact Nat.le_refl _⟩, ⟨by exact Sq.bk BK232.out⟩, ⟨by repeat (first | (with_reducible first | exact HB.out | apply below_alloc | apply pw_below_drewN | apply below_drew1 | refine below_set ?_ GE232.out) | exact HB.out)⟩⟩
        ·replace c20 := Bool.eq_false_iff.mpr c20
         subst c20
         rw [if_neg (show ¬ (false = true) by decide)] at H
         try dsimp -failIfUnchanged -simprocs only at H
         have H' := Aside0.mk H
         clear H
         obtain ⟨hcz22_0, hcz22_1, hcz22_2, hcz22_3, hcz22_4, hcz22_5⟩ := Sq.c6 BK232.out
         have hfz22_0 := Sq.fz BK232.out
         go_wp2_with (first | (go_at_call 32; (with_reducible refine (impl_hasText.calls a0_0 false _ A19.out).mono ?_); rintro e w' ⟨rfl, ⟨nd, rfl⟩⟩))
         go_meet
         case rel => exact ⟨_, (false), (by first | rfl | (simp; done) | (simp [*]; done) | (generalize ByteArray.toList _ = l_; cases l_ <;> rfl)), H', ⟨by have := HJ1.out; have := HJ10.out; first | omega | exact Nat.le_refl _⟩, ⟨by exact Sq.bk BK232.out⟩, ⟨by repeat (first | (with_reducible first | exact HB.out | apply below_alloc | apply pw_below_drewN | apply below_drew1 | refine below_set ?_ GE232.out) | exact HB.out)⟩⟩
      case rest =>
       clear HC16
       try clear c1
       try clear c2
       try clear p2
       try clear c3
       try clear c4
       try clear c5
       try clear c9
       try clear c13
       try clear c17
       try clear c17b0
       try clear c17b1
       try clear c20
       try clear hcz12_0
       try clear hcz12_1
       try clear hcz12_2
       try clear hcz12_3
       try clear hcz12_4
       try clear hcz12_5
       try clear hcz15_0
       try clear hcz15_1
       try clear hcz15_2
       try clear hcz15_3
       try clear hcz15_4
       try clear hcz15_5
       try clear hcz18_0
       try clear hcz18_1
       try clear hcz18_2
       try clear hcz18_3
       try clear hcz18_4
       try clear hcz18_5
       try clear hcz21_0
       try clear hcz21_1
       try clear hcz21_2
       try clear hcz21_3
       try clear hcz21_4
       try clear hcz21_5
       try clear hcz22_0
       try clear hcz22_1
       try clear hcz22_2
       try clear hcz22_3
       try clear hcz22_4
       try clear hcz22_5
       try clear hcz7_0
       try clear hcz7_1
       try clear hcz7_2
       try clear hcz7_3
       try clear hcz7_4
       try clear hcz7_5
       try clear hcz8_0
       try clear hcz8_1
       try clear hcz8_2
       try clear hcz8_3
       try clear hcz8_4
       try clear hcz8_5
       try clear hfz12_0
       try clear hfz15_0
       try clear hfz18_0
       try clear hfz21_0
       try clear hfz22_0
       try clear hfz7_0
       try clear hfz8_0
       try clear p2
       obtain ⟨kq, x4_15, rfl, HA, HJ15, BK232, HB⟩ := hcut
       cases kq with
       | zero => exact absurd HA.out (by simp [impl_CallOK.j2])
       | succ kj15 =>
        have H := HA.out
        clear HA
        simp only [impl_CallOK.j2] at H
        by_cases c23 : (l0_3.length : Int) = 0
        ·rw [if_pos c23] at H
         have c23b0 : ((l0_3.length : Int) == 0) = true := beq_iff_eq.mpr c23
         have c23b1 : ((l0_3.length : Int) != 0) = false := bne_eq_false_iff_eq.mpr c23
         clear c23
         by_cases c24 : a0_2 = 0
         ·rw [if_pos c24] at H
          have c24b0 : (a0_2 == 0) = true := beq_iff_eq.mpr c24
          have c24b1 : (a0_2 != 0) = false := bne_eq_false_iff_eq.mpr c24
          clear c24
          by_cases c25 : x3_10 = true
          ·subst c25
           rw [if_pos rfl] at H
           try dsimp -failIfUnchanged -simprocs only at H
           by_cases c26 : x4_15 = true
           ·subst c26
            rw [if_pos rfl] at H
            try dsimp -failIfUnchanged -simprocs only at H
            obtain rfl := Option.some.inj H
            obtain ⟨hcz27_0, hcz27_1, hcz27_2, hcz27_3, hcz27_4, hcz27_5⟩ := Sq.c6 BK232.out
            have hfz27_0 := Sq.fz BK232.out
            go_wp2
            go_ret
            exact ⟨by first | rfl | (simp [errW_none, errW_some] <;> rfl) | (simp [*, errW_none, errW_some] <;> rfl), by repeat (first | (with_reducible first | exact HB.out | apply below_alloc | apply pw_below_drewN | apply below_drew1 | refine below_set ?_ GE232.out) | exact HB.out)⟩
           ·replace c26 := Bool.eq_false_iff.mpr c26
            subst c26
            rw [if_neg (show ¬ (false = true) by decide)] at H
            try dsimp -failIfUnchanged -simprocs only at H
            obtain rfl := Option.some.inj H
            obtain ⟨hcz28_0, hcz28_1, hcz28_2, hcz28_3, hcz28_4, hcz28_5⟩ := Sq.c6 BK232.out
            have hfz28_0 := Sq.fz BK232.out
            go_wp2
            go_ret
            exact ⟨by first | rfl | (simp [errW_none, errW_some] <;> rfl) | (simp [*, errW_none, errW_some] <;> rfl), by repeat (first | (with_reducible first | exact HB.out | apply below_alloc | apply pw_below_drewN | apply below_drew1 | refine below_set ?_ GE232.out) | exact HB.out)⟩
          ·replace c25 := Bool.eq_false_iff.mpr c25
           subst c25
           rw [if_neg (show ¬ (false = true) by decide)] at H
           try dsimp -failIfUnchanged -simprocs only at H
           obtain rfl := Option.some.inj H
           obtain ⟨hcz29_0, hcz29_1, hcz29_2, hcz29_3, hcz29_4, hcz29_5⟩ := Sq.c6 BK232.out
           have hfz29_0 := Sq.fz BK232.out
           go_wp2
           go_ret
           exact ⟨by first | rfl | (simp [errW_none, errW_some] <;> rfl) | (simp [*, errW_none, errW_some] <;> rfl), by repeat (first | (with_reducible first | exact HB.out | apply below_alloc | apply pw_below_drewN | apply below_drew1 | refine below_set ?_ GE232.out) | exact HB.out)⟩
         ·rw [if_neg c24] at H
          have c24b0 : (a0_2 == 0) = false := beq_eq_false_iff_ne.mpr c24
          have c24b1 : (a0_2 != 0) = true := bne_iff_ne.mpr c24
          replace H := Option.bind_eq_some_iff.mp H
          obtain ⟨t238, A300, H⟩ := H
          try dsimp -failIfUnchanged -simprocs only at H
          have A30 := Aside0.mk A300
          clear A300
          by_cases c31 : t238 = true
          ·subst c31
           rw [if_pos rfl] at H
           try dsimp -failIfUnchanged -simprocs only at H
           replace H := Option.bind_eq_some_iff.mp H
           obtain ⟨t239, A320, H⟩ := H
           try dsimp -failIfUnchanged -simprocs only at H
           have A32 := Aside0.mk A320
           clear A320
           by_cases c33 : x3_10 = true
           ·subst c33
            rw [if_pos rfl] at H
            try dsimp -failIfUnchanged -simprocs only at H
            by_cases c34 : x4_15 = true
            ·subst c34
             rw [if_pos rfl] at H
             try dsimp -failIfUnchanged -simprocs only at H
             obtain rfl := Option.some.inj H
             obtain ⟨hcz35_0, hcz35_1, hcz35_2, hcz35_3, hcz35_4, hcz35_5⟩ := Sq.c6 BK232.out
             have hfz35_0 := Sq.fz BK232.out
             go_wp2_with (first | (go_at_call 31; (with_reducible refine (impl_hasConfig.calls a0_0 true _ A30.out).mono ?_); rintro e w' ⟨rfl, ⟨nd, rfl⟩⟩) | (go_at_call 44; (with_reducible refine (impl_within.calls a0_2 0 3 t239 _ A32.out).mono ?_); rintro e w' ⟨rfl, ⟨nd, rfl⟩⟩))
             go_ret
             exact ⟨by first | rfl | (simp [errW_none, errW_some] <;> rfl) | (simp [*, errW_none, errW_some] <;> rfl), by repeat (first | (with_reducible first | exact HB.out | apply below_alloc | apply pw_below_drewN | apply below_drew1 | refine below_set ?_ GE232.out) | exact HB.out)⟩
            ·replace c34 := Bool.eq_false_iff.mpr c34
             subst c34
             rw [if_neg (show ¬ (false = true) by decide)] at H
             try dsimp -failIfUnchanged -simprocs only at H
             obtain rfl := Option.some.inj H
             obtain ⟨hcz36_0, hcz36_1, hcz36_2, hcz36_3, hcz36_4, hcz36_5⟩ := Sq.c6 BK232.out
             have hfz36_0 := Sq.fz BK232.out
             go_wp2_with (first | (go_at_call 31; (with_reducible refine (impl_hasConfig.calls a0_0 true _ A30.out).mono ?_); rintro e w' ⟨rfl, ⟨nd, rfl⟩⟩) | (go_at_call 44; (with_reducible refine (impl_within.calls a0_2 0 3 t239 _ A32.out).mono ?_); rintro e w' ⟨rfl, ⟨nd, rfl⟩⟩))
             go_ret
             exact ⟨by first | rfl | (simp [errW_none, errW_some] <;> rfl) | (simp [*, errW_none, errW_some] <;> rfl), by repeat (first | (with_reducible first | exact HB.out | apply below_alloc | apply pw_below_drewN | apply below_drew1 | refine below_set ?_ GE232.out) | exact HB.out)⟩
           ·replace c33 := Bool.eq_false_iff.mpr c33
            subst c33
            rw [if_neg (show ¬ (false = true) by decide)] at H
            try dsimp -failIfUnchanged -simprocs only at H
            obtain rfl := Option.some.inj H
            obtain ⟨hcz37_0, hcz37_1, hcz37_2, hcz37_3, hcz37_4, hcz37_5⟩ := Sq.c6 BK232.out
            have hfz37_0 := Sq.fz BK232.out
            go_wp2_with (first | (go_at_call 31; (with_reducible refine (impl_hasConfig.calls a0_0 true _ A30.out).mono ?_); rintro e w' ⟨rfl, ⟨nd, rfl⟩⟩) | (go_at_call 44; (with_reducible refine (impl_within.calls a0_2 0 3 t239 _ A32.out).mono ?_); rintro e w' ⟨rfl, ⟨nd, rfl⟩⟩))
            go_ret
            exact ⟨by first | rfl | (simp [errW_none, errW_some] <;> rfl) | (simp [*, errW_none, errW_some] <;> rfl), by repeat (first | (with_reducible first | exact HB.out | apply below_alloc | apply pw_below_drewN | apply below_drew1 | refine below_set ?_ GE232.out) | exact HB.out)⟩
          ·replace c31 := Bool.eq_false_iff.mpr c31
           subst c31
           rw [if_neg (show ¬ (false = true) by decide)] at H
           try dsimp -failIfUnchanged -simprocs only at H
           by_cases c38 : x3_10 = true
           ·subst c38
            rw [if_pos rfl] at H
            try dsimp -failIfUnchanged -simprocs only at H
            by_cases c39 : x4_15 = true
            ·subst c39
             rw [if_pos rfl] at H
             try dsimp -failIfUnchanged -simprocs only at H
             obtain rfl := Option.some.inj H
             obtain ⟨hcz40_0, hcz40_1, hcz40_2, hcz40_3, hcz40_4, hcz40_5⟩ := Sq.c6 BK232.out
             have hfz40_0 := Sq.fz BK232.out
             go_wp2_with (first | (go_at_call 31; (with_reducible refine (impl_hasConfig.calls a0_0 false _ A30.out).mono ?_); rintro e w' ⟨rfl, ⟨nd, rfl⟩⟩))
             go_ret
             exact ⟨by first | rfl | (simp [errW_none, errW_some] <;> rfl) | (simp [*, errW_none, errW_some] <;> rfl), by repeat (first | (with_reducible first | exact HB.out | apply below_alloc | apply pw_below_drewN | apply below_drew1 | refine below_set ?_ GE232.out) | exact HB.out)⟩
            ·replace c39 := Bool.eq_false_iff.mpr c39
             subst c39
             rw [if_neg (show ¬ (false = true) by decide)] at H
             try dsimp -failIfUnchanged -simprocs only at H
             obtain rfl := Option.some.inj H
             obtain ⟨hcz41_0, hcz41_1, hcz41_2, hcz41_3, hcz41_4, hcz41_5⟩ := Sq.c6 BK232.out
             have hfz41_0 := Sq.fz BK232.out
             go_wp2_with (first | (go_at_call 31; (with_reducible refine (impl_hasConfig.calls a0_0 false _ A30.out).mono ?_); rintro e w' ⟨rfl, ⟨nd, rfl⟩⟩))
             go_ret
             exact ⟨by first | rfl | (simp [errW_none, errW_some] <;> rfl) | (simp [*, errW_none, errW_some] <;> rfl), by repeat (first | (with_reducible first | exact HB.out | apply below_alloc | apply pw_below_drewN | apply below_drew1 | refine below_set ?_ GE232.out) | exact HB.out)⟩
           ·replace c38 := Bool.eq_false_iff.mpr c38
            subst c38
            rw [if_neg (show ¬ (false = true) by decide)] at H
            try dsimp -failIfUnchanged -simprocs only at H
            obtain rfl := Option.some.inj H
            obtain ⟨hcz42_0, hcz42_1, hcz42_2, hcz42_3, hcz42_4, hcz42_5⟩ := Sq.c6 BK232.out
            have hfz42_0 := Sq.fz BK232.out
            go_wp2_with (first | (go_at_call 31; (with_reducible refine (impl_hasConfig.calls a0_0 false _ A30.out).mono ?_); rintro e w' ⟨rfl, ⟨nd, rfl⟩⟩))
            go_ret
            exact ⟨by first | rfl | (simp [errW_none, errW_some] <;> rfl) | (simp [*, errW_none, errW_some] <;> rfl), by repeat (first | (with_reducible first | exact HB.out | apply below_alloc | apply pw_below_drewN | apply below_drew1 | refine below_set ?_ GE232.out) | exact HB.out)⟩
        ·rw [if_neg c23] at H
         have c23b0 : ((l0_3.length : Int) == 0) = false := beq_eq_false_iff_ne.mpr c23
         have c23b1 : ((l0_3.length : Int) != 0) = true := bne_iff_ne.mpr c23
         have c23b2 : ¬ (l0_3 = []) := fun h_ => c23 (by rw [h_]; rfl)
         replace H := Option.bind_eq_some_iff.mp H
         obtain ⟨t240, A430, H⟩ := H
         try dsimp -failIfUnchanged -simprocs only at H
         have A43 := Aside0.mk A430
         clear A430
         by_cases c44 : t240 = true
         ·subst c44
          rw [if_pos rfl] at H
          try dsimp -failIfUnchanged -simprocs only at H
          replace H := Option.bind_eq_some_iff.mp H
          obtain ⟨t241, A450, H⟩ := H
          try dsimp -failIfUnchanged -simprocs only at H
          have A45 := Aside0.mk A450
          clear A450
          by_cases c46 : a0_2 = 0
          ·rw [if_pos c46] at H
           have c46b0 : (a0_2 == 0) = true := beq_iff_eq.mpr c46
           have c46b1 : (a0_2 != 0) = false := bne_eq_false_iff_eq.mpr c46
           clear c46
           by_cases c47 : x3_10 = true
           ·subst c47
            rw [if_pos rfl] at H
            try dsimp -failIfUnchanged -simprocs only at H
            by_cases c48 : x4_15 = true
            ·subst c48
             rw [if_pos rfl] at H
             try dsimp -failIfUnchanged -simprocs only at H
             by_cases c49 : t241 = true
             ·subst c49
              rw [if_pos rfl] at H
              try dsimp -failIfUnchanged -simprocs only at H
              obtain rfl := Option.some.inj H
              obtain ⟨hcz50_0, hcz50_1, hcz50_2, hcz50_3, hcz50_4, hcz50_5⟩ := Sq.c6 BK232.out
              have hfz50_0 := Sq.fz BK232.out
              go_wp2_with (first | (go_at_call 28; (with_reducible refine (impl_hasPath.calls a0_0 true _ A43.out).mono ?_); rintro e w' ⟨rfl, ⟨nd, rfl⟩⟩) | (go_at_call 46; (with_reducible refine (impl_isPath.calls _ _ l0_3 true _ ?side1 ?side2 A45.out).mono ?_); (case side1 => repeat (first | exact (Kd.C_below HR0_3.out (by repeat (first | (with_reducible first | exact HB.out | apply below_alloc | apply pw_below_drewN | apply below_drew1 | refine below_set ?_ GE232.out) | exact HB.out))) | (with_reducible refine Kd.C_alloc ?_ _) | (with_reducible refine Kd.C_drewN ?_ _) | (with_reducible refine Kd.C_drew ?_))); (case side2 => exact HC0_3.out); rintro e w' ⟨rfl, ⟨nd, rfl⟩⟩))
              go_ret
              exact ⟨by first | rfl | (simp [errW_none, errW_some] <;> rfl) | (simp [*, errW_none, errW_some] <;> rfl), by repeat (first | (with_reducible first | exact HB.out | apply below_alloc | apply pw_below_drewN | apply below_drew1 | refine below_set ?_ GE232.out) | exact HB.out)⟩
             ·replace c49 := Bool.eq_false_iff.mpr c49
              subst c49
              rw [if_neg (show ¬ (false = true) by decide)] at H
              try dsimp -failIfUnchanged -simprocs only at H
              obtain rfl := Option.some.inj H
              obtain ⟨hcz51_0, hcz51_1, hcz51_2, hcz51_3, hcz51_4, hcz51_5⟩ := Sq.c6 BK232.out
              have hfz51_0 := Sq.fz BK232.out
              go_wp2_with (first | (go_at_call 28; (with_reducible refine (impl_hasPath.calls a0_0 true _ A43.out).mono ?_); rintro e w' ⟨rfl, ⟨nd, rfl⟩⟩) | (go_at_call 46; (with_reducible refine (impl_isPath.calls _ _ l0_3 false _ ?side1 ?side2 A45.out).mono ?_); (case side1 => repeat (first | exact (Kd.C_below HR0_3.out (by repeat (first | (with_reducible first | exact HB.out | apply below_alloc | apply pw_below_drewN | apply below_drew1 | refine below_set ?_ GE232.out) | exact HB.out))) | (with_reducible refine Kd.C_alloc ?_ _) | (with_reducible refine Kd.C_drewN ?_ _) | (with_reducible refine Kd.C_drew ?_))); (case side2 => exact HC0_3.out); rintro e w' ⟨rfl, ⟨nd, rfl⟩⟩))
              go_ret
              exact ⟨by first | rfl | (simp [errW_none, errW_some] <;> rfl) | (simp [*, errW_none, errW_some] <;> rfl), by repeat (first | (with_reducible first | exact HB.out | apply below_alloc | apply pw_below_drewN | apply below_drew1 | refine below_set ?_ GE232.out) | exact HB.out)⟩
            ·replace c48 := Bool.eq_false_iff.mpr c48
             subst c48
             rw [if_neg (show ¬ (false = true) by decide)] at H
             try dsimp -failIfUnchanged -simprocs only at H
             obtain rfl := Option.some.inj H
             obtain ⟨hcz52_0, hcz52_1, hcz52_2, hcz52_3, hcz52_4, hcz52_5⟩ := Sq.c6 BK232.out
             have hfz52_0 := Sq.fz BK232.out
             go_wp2_with (first | (go_at_call 28; (with_reducible refine (impl_hasPath.calls a0_0 true _ A43.out).mono ?_); rintro e w' ⟨rfl, ⟨nd, rfl⟩⟩) | (go_at_call 46; (with_reducible refine (impl_isPath.calls _ _ l0_3 t241 _ ?side1 ?side2 A45.out).mono ?_); (case side1 => repeat (first | exact (Kd.C_below HR0_3.out (by repeat (first | (with_reducible first | exact HB.out | apply below_alloc | apply pw_below_drewN | apply below_drew1 | refine below_set ?_ GE232.out) | exact HB.out))) | (with_reducible refine Kd.C_alloc ?_ _) | (with_reducible refine Kd.C_drewN ?_ _) | (with_reducible refine Kd.C_drew ?_))); (case side2 => exact HC0_3.out); rintro e w' ⟨rfl, ⟨nd, rfl⟩⟩))
             go_ret
             exact ⟨by first | rfl | (simp [errW_none, errW_some] <;> rfl) | (simp [*, errW_none, errW_some] <;> rfl), by repeat (first | (with_reducible first | exact HB.out | apply below_alloc | apply pw_below_drewN | apply below_drew1 | refine below_set ?_ GE232.out) | exact HB.out)⟩
           ·replace c47 := Bool.eq_false_iff.mpr c47
            subst c47
            rw [if_neg (show ¬ (false = true) by decide)] at H
            try dsimp -failIfUnchanged -simprocs only at H
            obtain rfl := Option.some.inj H
            obtain ⟨hcz53_0, hcz53_1, hcz53_2, hcz53_3, hcz53_4, hcz53_5⟩ := Sq.c6 BK232.out
            have hfz53_0 := Sq.fz BK232.out
            go_wp2_with (first | (go_at_call 28; (with_reducible refine (impl_hasPath.calls a0_0 true _ A43.out).mono ?_); rintro e w' ⟨rfl, ⟨nd, rfl⟩⟩) | (go_at_call 46; (with_reducible refine (impl_isPath.calls _ _ l0_3 t241 _ ?side1 ?side2 A45.out).mono ?_); (case side1 => repeat (first | exact (Kd.C_below HR0_3.out (by repeat (first | (with_reducible first | exact HB.out | apply below_alloc | apply pw_below_drewN | apply below_drew1 | refine below_set ?_ GE232.out) | exact HB.out))) | (with_reducible refine Kd.C_alloc ?_ _) | (with_reducible refine Kd.C_drewN ?_ _) | (with_reducible refine Kd.C_drew ?_))); (case side2 => exact HC0_3.out); rintro e w' ⟨rfl, ⟨nd, rfl⟩⟩))
            go_ret
            exact ⟨by first | rfl | (simp [errW_none, errW_some] <;> rfl) | (simp [*, errW_none, errW_some] <;> rfl), by repeat (first | (with_reducible first | exact HB.out | apply below_alloc | apply pw_below_drewN | apply below_drew1 | refine below_set ?_ GE232.out) | exact HB.out)⟩
          ·rw [if_neg c46] at H
           have c46b0 : (a0_2 == 0) = false := beq_eq_false_iff_ne.mpr c46
           have c46b1 : (a0_2 != 0) = true := bne_iff_ne.mpr c46
           replace H := Option.bind_eq_some_iff.mp H
           obtain ⟨t242, A540, H⟩ := H
           try dsimp -failIfUnchanged -simprocs only at H
           have A54 := Aside0.mk A540
           clear A540
           by_cases c55 : t242 = true
           ·subst c55
            rw [if_pos rfl] at H
            try dsimp -failIfUnchanged -simprocs only at H
            replace H := Option.bind_eq_some_iff.mp H
            obtain ⟨t243, A560, H⟩ := H
            try dsimp -failIfUnchanged -simprocs only at H
            have A56 := Aside0.mk A560
            clear A560
            by_cases c57 : x3_10 = true
            ·subst c57
             rw [if_pos rfl] at H
             try dsimp -failIfUnchanged -simprocs only at H
             by_cases c58 : x4_15 = true
             ·subst c58
              rw [if_pos rfl] at H
              try dsimp -failIfUnchanged -simprocs only at H
              by_cases c59 : t241 = true
              ·subst c59
               rw [if_pos rfl] at H
               try dsimp -failIfUnchanged -simprocs only at H
               obtain rfl := Option.some.inj H
               obtain ⟨hcz60_0, hcz60_1, hcz60_2, hcz60_3, hcz60_4, hcz60_5⟩ := Sq.c6 BK232.out
               have hfz60_0 := Sq.fz BK232.out
               go_wp2_with (first | (go_at_call 28; (with_reducible refine (impl_hasPath.calls a0_0 true _ A43.out).mono ?_); rintro e w' ⟨rfl, ⟨nd, rfl⟩⟩) | (go_at_call 46; (with_reducible refine (impl_isPath.calls _ _ l0_3 true _ ?side1 ?side2 A45.out).mono ?_); (case side1 => repeat (first | exact (Kd.C_below HR0_3.out (by repeat (first | (with_reducible first | exact HB.out | apply below_alloc | apply pw_below_drewN | apply below_drew1 | refine below_set ?_ GE232.out) | exact HB.out))) | (with_reducible refine Kd.C_alloc ?_ _) | (with_reducible refine Kd.C_drewN ?_ _) | (with_reducible refine Kd.C_drew ?_))); (case side2 => exact HC0_3.out); rintro e w' ⟨rfl, ⟨nd, rfl⟩⟩) | (go_at_call 31; (with_reducible refine (impl_hasConfig.calls a0_0 true _ A54.out).mono ?_); rintro e w' ⟨rfl, ⟨nd, rfl⟩⟩) | (go_at_call 44; (with_reducible refine (impl_within.calls a0_2 0 3 t243 _ A56.out).mono ?_); rintro e w' ⟨rfl, ⟨nd, rfl⟩⟩))
               go_ret
               exact ⟨by first | rfl | (simp [errW_none, errW_some] <;> rfl) | (simp [*, errW_none, errW_some] <;> rfl), by repeat (first | (with_reducible first | exact HB.out | apply below_alloc | apply pw_below_drewN | apply below_drew1 | refine below_set ?_ GE232.out) | exact HB.out)⟩
              ·replace c59 := Bool.eq_false_iff.mpr c59
               subst c59
               rw [if_neg (show ¬ (false = true) by decide)] at H
               try dsimp -failIfUnchanged -simprocs only at H
               obtain rfl := Option.some.inj H
               obtain ⟨hcz61_0, hcz61_1, hcz61_2, hcz61_3, hcz61_4, hcz61_5⟩ := Sq.c6 BK232.out
               have hfz61_0 := Sq.fz BK232.out
               go_wp2_with (first | (go_at_call 28; (with_reducible refine (impl_hasPath.calls a0_0 true _ A43.out).mono ?_); rintro e w' ⟨rfl, ⟨nd, rfl⟩⟩) | (go_at_call 46; (with_reducible refine (impl_isPath.calls _ _ l0_3 false _ ?side1 ?side2 A45.out).mono ?_); (case side1 => repeat (first | exact (Kd.C_below HR0_3.out (by repeat (first | (with_reducible first | exact HB.out | apply below_alloc | apply pw_below_drewN | apply below_drew1 | refine below_set ?_ GE232.out) | exact HB.out))) | (with_reducible refine Kd.C_alloc ?_ _) | (with_reducible refine Kd.C_drewN ?_ _) | (with_reducible refine Kd.C_drew ?_))); (case side2 => exact HC0_3.out); rintro e w' ⟨rfl, ⟨nd, rfl⟩⟩) | (go_at_call 31; (with_reducible refine (impl_hasConfig.calls a0_0 true _ A54.out).mono ?_); rintro e w' ⟨rfl, ⟨nd, rfl⟩⟩) | (go_at_call 44; (with_reducible refine (impl_within.calls a0_2 0 3 t243 _ A56.out).mono ?_); rintro e w' ⟨rfl, ⟨nd, rfl⟩⟩))
               go_ret
               exact ⟨by first | rfl | (simp [errW_none, errW_some] <;> rfl) | (simp [*, errW_none, errW_some] <;> rfl), by repeat (first | (with_reducible first | exact HB.out | apply below_alloc | apply pw_below_drewN | apply below_drew1 | refine below_set ?_ GE232.out) | exact HB.out)⟩
             ·replace c58 := Bool.eq_false_iff.mpr c58
              subst c58
              rw [if_neg (show ¬ (false = true) by decide)] at H
              try dsimp -failIfUnchanged -simprocs only at H
              obtain rfl := Option.some.inj H
              obtain ⟨hcz62_0, hcz62_1, hcz62_2, hcz62_3, hcz62_4, hcz62_5⟩ := Sq.c6 BK232.out
              have hfz62_0 := Sq.fz BK232.out
              go_wp2_with (first | (go_at_call 28; (with_reducible refine (impl_hasPath.calls a0_0 true _ A43.out).mono ?_); rintro e w' ⟨rfl, ⟨nd, rfl⟩⟩) | (go_at_call 46; (with_reducible refine (impl_isPath.calls _ _ l0_3 t241 _ ?side1 ?side2 A45.out).mono ?_); (case side1 => repeat (first | exact (Kd.C_below HR0_3.out (by repeat (first | (with_reducible first | exact HB.out | apply below_alloc | apply pw_below_drewN | apply below_drew1 | refine below_set ?_ GE232.out) | exact HB.out))) | (with_reducible refine Kd.C_alloc ?_ _) | (with_reducible refine Kd.C_drewN ?_ _) | (with_reducible refine Kd.C_drew ?_))); (case side2 => exact HC0_3.out); rintro e w' ⟨rfl, ⟨nd, rfl⟩⟩) | (go_at_call 31; (with_reducible refine (impl_hasConfig.calls a0_0 true _ A54.out).mono ?_); rintro e w' ⟨rfl, ⟨nd, rfl⟩⟩) | (go_at_call 44; (with_reducible refine (impl_within.calls a0_2 0 3 t243 _ A56.out).mono ?_); rintro e w' ⟨rfl, ⟨nd, rfl⟩⟩))
              go_ret
              exact ⟨by first | rfl | (simp [errW_none, errW_some] <;> rfl) | (simp [*, errW_none, errW_some] <;> rfl), by repeat (first | (with_reducible first | exact HB.out | apply below_alloc | apply pw_below_drewN | apply below_drew1 | refine below_set ?_ GE232.out) | exact HB.out)⟩
            ·replace c57 := Bool.eq_false_iff.mpr c57
             subst c57
             rw [if_neg (show ¬ (false = true) by decide)] at H
             try dsimp -failIfUnchanged -simprocs only at H
             obtain rfl := Option.some.inj H
             obtain ⟨hcz63_0, hcz63_1, hcz63_2, hcz63_3, hcz63_4, hcz63_5⟩ := Sq.c6 BK232.out
             have hfz63_0 := Sq.fz BK232.out
             go_wp2_with (first | (go_at_call 28; (with_reducible refine (impl_hasPath.calls a0_0 true _ A43.out).mono ?_); rintro e w' ⟨rfl, ⟨nd, rfl⟩⟩) | (go_at_call 46; (with_reducible refine (impl_isPath.calls _ _ l0_3 t241 _ ?side1 ?side2 A45.out).mono ?_); (case side1 => repeat (first | exact (Kd.C_below HR0_3.out (by repeat (first | (with_reducible first | exact HB.out | apply below_alloc | apply pw_below_drewN | apply below_drew1 | refine below_set ?_ GE232.out) | exact HB.out))) | (with_reducible refine Kd.C_alloc ?_ _) | (with_reducible refine Kd.C_drewN ?_ _) | (with_reducible refine Kd.C_drew ?_))); (case side2 => exact HC0_3.out); rintro e w' ⟨rfl, ⟨nd, rfl⟩⟩) | (go_at_call 31; (with_reducible refine (impl_hasConfig.calls a0_0 true _ A54.out).mono ?_); rintro e w' ⟨rfl, ⟨nd, rfl⟩⟩) | (go_at_call 44; (with_reducible refine (impl_within.calls a0_2 0 3 t243 _ A56.out).mono ?_); rintro e w' ⟨rfl, ⟨nd, rfl⟩⟩))
             go_ret
             exact ⟨by first | rfl | (simp [errW_none, errW_some] <;> rfl) | (simp [*, errW_none, errW_some] <;> rfl), by repeat (first | (with_reducible first | exact HB.out | apply below_alloc | apply pw_below_drewN | apply below_drew1 | refine below_set ?_ GE232.out) | exact HB.out)⟩
           ·replace c55 := Bool.eq_false_iff.mpr c55
            subst c55
            rw [if_neg (show ¬ (false = true) by decide)] at H
            try dsimp -failIfUnchanged -simprocs only at H
            by_cases c64 : x3_10 = true
            ·subst c64
             rw [if_pos rfl] at H
             try dsimp -failIfUnchanged -simprocs only at H
             by_cases c65 : x4_15 = true
             ·subst c65
              rw [if_pos rfl] at H
              try dsimp -failIfUnchanged -simprocs only at H
              by_cases c66 : t241 = true
              ·subst c66
               rw [if_pos rfl] at H
               try dsimp -failIfUnchanged -simprocs only at H
               obtain rfl := Option.some.inj H
               obtain ⟨hcz67_0, hcz67_1, hcz67_2, hcz67_3, hcz67_4, hcz67_5⟩ := Sq.c6 BK232.out
               have hfz67_0 := Sq.fz BK232.out
               go_wp2_with (first | (go_at_call 28; (with_reducible refine (impl_hasPath.calls a0_0 true _ A43.out).mono ?_); rintro e w' ⟨rfl, ⟨nd, rfl⟩⟩) | (go_at_call 46; (with_reducible refine (impl_isPath.calls _ _ l0_3 true _ ?side1 ?side2 A45.out).mono ?_); (case side1 => repeat (first | exact (Kd.C_below HR0_3.out (by repeat (first | (with_reducible first | exact HB.out | apply below_alloc | apply pw_below_drewN | apply below_drew1 | refine below_set ?_ GE232.out) | exact HB.out))) | (with_reducible refine Kd.C_alloc ?_ _) | (with_reducible refine Kd.C_drewN ?_ _) | (with_reducible refine Kd.C_drew ?_))); (case side2 => exact HC0_3.out); rintro e w' ⟨rfl, ⟨nd, rfl⟩⟩) | (go_at_call 31; (with_reducible refine (impl_hasConfig.calls a0_0 false _ A54.out).mono ?_); rintro e w' ⟨rfl, ⟨nd, rfl⟩⟩))
               go_ret
               exact ⟨by first | rfl | (simp [errW_none, errW_some] <;> rfl) | (simp [*, errW_none, errW_some] <;> rfl), by repeat (first | (with_reducible first | exact HB.out | apply below_alloc | apply pw_below_drewN | apply below_drew1 | refine below_set ?_ GE232.out) | exact HB.out)⟩
              ·replace c66 := Bool.eq_false_iff.mpr c66
               subst c66
               rw [if_neg (show ¬ (false = true) by decide)] at H
               try dsimp -failIfUnchanged -simprocs only at H
               obtain rfl := Option.some.inj H
               obtain ⟨hcz68_0, hcz68_1, hcz68_2, hcz68_3, hcz68_4, hcz68_5⟩ := Sq.c6 BK232.out
               have hfz68_0 := Sq.fz BK232.out
               go_wp2_with (first | (go_at_call 28; (with_reducible refine (impl_hasPath.calls a0_0 true _ A43.out).mono ?_); rintro e w' ⟨rfl, ⟨nd, rfl⟩⟩) | (go_at_call 46; (with_reducible refine (impl_isPath.calls _ _ l0_3 false _ ?side1 ?side2 A45.out).mono ?_); (case side1 => repeat (first | exact (Kd.C_below HR0_3.out (by repeat (first | (with_reducible first | exact HB.out | apply below_alloc | apply pw_below_drewN | apply below_drew1 | refine below_set ?_ GE232.out) | exact HB.out))) | (with_reducible refine Kd.C_alloc ?_ _) | (with_reducible refine Kd.C_drewN ?_ _) | (with_reducible refine Kd.C_drew ?_))); (case side2 => exact HC0_3.out); rintro e w' ⟨rfl, ⟨nd, rfl⟩⟩) | (go_at_call 31; (with_reducible refine (impl_hasConfig.calls a0_0 false _ A54.out).mono ?_); rintro e w' ⟨rfl, ⟨nd, rfl⟩⟩))
               go_ret
               exact ⟨by first | rfl | (simp [errW_none, errW_some] <;> rfl) | (simp [*, errW_none, errW_some] <;> rfl), by repeat (first | (with_reducible first | exact HB.out | apply below_alloc | apply pw_below_drewN | apply below_drew1 | refine below_set ?_ GE232.out) | exact HB.out)⟩
             ·replace c65 := Bool.eq_false_iff.mpr c65
              subst c65
              rw [if_neg (show ¬ (false = true) by decide)] at H
              try dsimp -failIfUnchanged -simprocs only at H
              obtain rfl := Option.some.inj H
              obtain ⟨hcz69_0, hcz69_1, hcz69_2, hcz69_3, hcz69_4, hcz69_5⟩ := Sq.c6 BK232.out
              have hfz69_0 := Sq.fz BK232.out
              go_wp2_with (first | (go_at_call 28; (with_reducible refine (impl_hasPath.calls a0_0 true _ A43.out).mono ?_); rintro e w' ⟨rfl, ⟨nd, rfl⟩⟩) | (go_at_call 46; (with_reducible refine (impl_isPath.calls _ _ l0_3 t241 _ ?side1 ?side2 A45.out).mono ?_); (case side1 => repeat (first | exact (Kd.C_below HR0_3.out (by repeat (first | (with_reducible first | exact HB.out | apply below_alloc | apply pw_below_drewN | apply below_drew1 | refine below_set ?_ GE232.out) | exact HB.out))) | (with_reducible refine Kd.C_alloc ?_ _) | (with_reducible refine Kd.C_drewN ?_ _) | (with_reducible refine Kd.C_drew ?_))); (case side2 => exact HC0_3.out); rintro e w' ⟨rfl, ⟨nd, rfl⟩⟩) | (go_at_call 31; (with_reducible refine (impl_hasConfig.calls a0_0 false _ A54.out).mono ?_); rintro e w' ⟨rfl, ⟨nd, rfl⟩⟩))
              go_ret
              exact ⟨by first | rfl | (simp [errW_none, errW_some] <;> rfl) | (simp [*, errW_none, errW_some] <;> rfl), by repeat (first | (with_reducible first | exact HB.out | apply below_alloc | apply pw_below_drewN | apply below_drew1 | refine below_set ?_ GE232.out) | exact HB.out)⟩
            ·replace c64 := Bool.eq_false_iff.mpr c64
             subst c64
             rw [if_neg (show ¬ (false = true) by decide)] at H
             try dsimp -failIfUnchanged -simprocs only at H
             obtain rfl := Option.some.inj H
             obtain ⟨hcz70_0, hcz70_1, hcz70_2, hcz70_3, hcz70_4, hcz70_5⟩ := Sq.c6 BK232.out
             have hfz70_0 := Sq.fz BK232.out
             go_wp2_with (first | (go_at_call 28; (with_reducible refine (impl_hasPath.calls a0_0 true _ A43.out).mono ?_); rintro e w' ⟨rfl, ⟨nd, rfl⟩⟩) | (go_at_call 46; (with_reducible refine (impl_isPath.calls _ _ l0_3 t241 _ ?side1 ?side2 A45.out).mono ?_); (case side1 => repeat (first | exact (Kd.C_below HR0_3.out (by repeat (first | (with_reducible first | exact HB.out | apply below_alloc | apply pw_below_drewN | apply below_drew1 | refine below_set ?_ GE232.out) | exact HB.out))) | (with_reducible refine Kd.C_alloc ?_ _) | (with_reducible refine Kd.C_drewN ?_ _) | (with_reducible refine Kd.C_drew ?_))); (case side2 => exact HC0_3.out); rintro e w' ⟨rfl, ⟨nd, rfl⟩⟩) | (go_at_call 31; (with_reducible refine (impl_hasConfig.calls a0_0 false _ A54.out).mono ?_); rintro e w' ⟨rfl, ⟨nd, rfl⟩⟩))
             go_ret
             exact ⟨by first | rfl | (simp [errW_none, errW_some] <;> rfl) | (simp [*, errW_none, errW_some] <;> rfl), by repeat (first | (with_reducible first | exact HB.out | apply below_alloc | apply pw_below_drewN | apply below_drew1 | refine below_set ?_ GE232.out) | exact HB.out)⟩
         ·replace c44 := Bool.eq_false_iff.mpr c44
          subst c44
          rw [if_neg (show ¬ (false = true) by decide)] at H
          try dsimp -failIfUnchanged -simprocs only at H
          by_cases c71 : a0_2 = 0
          ·rw [if_pos c71] at H
           have c71b0 : (a0_2 == 0) = true := beq_iff_eq.mpr c71
           have c71b1 : (a0_2 != 0) = false := bne_eq_false_iff_eq.mpr c71
           clear c71
           by_cases c72 : x3_10 = true
           ·subst c72
            rw [if_pos rfl] at H
            try dsimp -failIfUnchanged -simprocs only at H
            by_cases c73 : x4_15 = true
            ·subst c73
             rw [if_pos rfl] at H
             try dsimp -failIfUnchanged -simprocs only at H
             obtain rfl := Option.some.inj H
             obtain ⟨hcz74_0, hcz74_1, hcz74_2, hcz74_3, hcz74_4, hcz74_5⟩ := Sq.c6 BK232.out
             have hfz74_0 := Sq.fz BK232.out
             go_wp2_with (first | (go_at_call 28; (with_reducible refine (impl_hasPath.calls a0_0 false _ A43.out).mono ?_); rintro e w' ⟨rfl, ⟨nd, rfl⟩⟩))
             go_ret
             exact ⟨by first | rfl | (simp [errW_none, errW_some] <;> rfl) | (simp [*, errW_none, errW_some] <;> rfl), by repeat (first | (with_reducible first | exact HB.out | apply below_alloc | apply pw_below_drewN | apply below_drew1 | refine below_set ?_ GE232.out) | exact HB.out)⟩
            ·replace c73 := Bool.eq_false_iff.mpr c73
             subst c73
             rw [if_neg (show ¬ (false = true) by decide)] at H
             try dsimp -failIfUnchanged -simprocs only at H
             obtain rfl := Option.some.inj H
             obtain ⟨hcz75_0, hcz75_1, hcz75_2, hcz75_3, hcz75_4, hcz75_5⟩ := Sq.c6 BK232.out
             have hfz75_0 := Sq.fz BK232.out
             go_wp2_with (first | (go_at_call 28; (with_reducible refine (impl_hasPath.calls a0_0 false _ A43.out).mono ?_); rintro e w' ⟨rfl, ⟨nd, rfl⟩⟩))
             go_ret
             exact ⟨by first | rfl | (simp [errW_none, errW_some] <;> rfl) | (simp [*, errW_none, errW_some] <;> rfl), by repeat (first | (with_reducible first | exact HB.out | apply below_alloc | apply pw_below_drewN | apply below_drew1 | refine below_set ?_ GE232.out) | exact HB.out)⟩
           ·replace c72 := Bool.eq_false_iff.mpr c72
            subst c72
            rw [if_neg (show ¬ (false = true) by decide)] at H
            try dsimp -failIfUnchanged -simprocs only at H
            obtain rfl := Option.some.inj H
            obtain ⟨hcz76_0, hcz76_1, hcz76_2, hcz76_3, hcz76_4, hcz76_5⟩ := Sq.c6 BK232.out
            have hfz76_0 := Sq.fz BK232.out
            go_wp2_with (first | (go_at_call 28; (with_reducible refine (impl_hasPath.calls a0_0 false _ A43.out).mono ?_); rintro e w' ⟨rfl, ⟨nd, rfl⟩⟩))
            go_ret
            exact ⟨by first | rfl | (simp [errW_none, errW_some] <;> rfl) | (simp [*, errW_none, errW_some] <;> rfl), by repeat (first | (with_reducible first | exact HB.out | apply below_alloc | apply pw_below_drewN | apply below_drew1 | refine below_set ?_ GE232.out) | exact HB.out)⟩
          ·rw [if_neg c71] at H
           have c71b0 : (a0_2 == 0) = false := beq_eq_false_iff_ne.mpr c71
           have c71b1 : (a0_2 != 0) = true := bne_iff_ne.mpr c71
           replace H := Option.bind_eq_some_iff.mp H
           obtain ⟨t244, A770, H⟩ := H
           try dsimp -failIfUnchanged -simprocs only at H
           have A77 := Aside0.mk A770
           clear A770
           by_cases c78 : t244 = true
           ·subst c78
            rw [if_pos rfl] at H
            try dsimp -failIfUnchanged -simprocs only at H
            replace H := Option.bind_eq_some_iff.mp H
            obtain ⟨t245, A790, H⟩ := H
            try dsimp -failIfUnchanged -simprocs only at H
            have A79 := Aside0.mk A790
            clear A790
            by_cases c80 : x3_10 = true
            ·subst c80
             rw [if_pos rfl] at H
             try dsimp -failIfUnchanged -simprocs only at H
             by_cases c81 : x4_15 = true
             ·subst c81
              rw [if_pos rfl] at H
              try dsimp -failIfUnchanged -simprocs only at H
              obtain rfl := Option.some.inj H
              obtain ⟨hcz82_0, hcz82_1, hcz82_2, hcz82_3, hcz82_4, hcz82_5⟩ := Sq.c6 BK232.out
              have hfz82_0 := Sq.fz BK232.out
              go_wp2_with (first | (go_at_call 28; (with_reducible refine (impl_hasPath.calls a0_0 false _ A43.out).mono ?_); rintro e w' ⟨rfl, ⟨nd, rfl⟩⟩) | (go_at_call 31; (with_reducible refine (impl_hasConfig.calls a0_0 true _ A77.out).mono ?_); rintro e w' ⟨rfl, ⟨nd, rfl⟩⟩) | (go_at_call 44; (with_reducible refine (impl_within.calls a0_2 0 3 t245 _ A79.out).mono ?_); rintro e w' ⟨rfl, ⟨nd, rfl⟩⟩))
              go_ret
              exact ⟨by first | rfl | (simp [errW_none, errW_some] <;> rfl) | (simp [*, errW_none, errW_some] <;> rfl), by repeat (first | (with_reducible first | exact HB.out | apply below_alloc | apply pw_below_drewN | apply below_drew1 | refine below_set ?_ GE232.out) | exact HB.out)⟩
             ·replace c81 := Bool.eq_false_iff.mpr c81
              subst c81
              rw [if_neg (show ¬ (false = true) by decide)] at H
              try dsimp -failIfUnchanged -simprocs only at H
              obtain rfl := Option.some.inj H
              obtain ⟨hcz83_0, hcz83_1, hcz83_2, hcz83_3, hcz83_4, hcz83_5⟩ := Sq.c6 BK232.out
              have hfz83_0 := Sq.fz BK232.out
              go_wp2_with (first | (go_at_call 28; (with_reducible refine (impl_hasPath.calls a0_0 false _ A43.out).mono ?_); rintro e w' ⟨rfl, ⟨nd, rfl⟩⟩) | (go_at_call 31; (with_reducible refine (impl_hasConfig.calls a0_0 true _ A77.out).mono ?_); rintro e w' ⟨rfl, ⟨nd, rfl⟩⟩) | (go_at_call 44; (with_reducible refine (impl_within.calls a0_2 0 3 t245 _ A79.out).mono ?_); rintro e w' ⟨rfl, ⟨nd, rfl⟩⟩))
              go_ret
              exact ⟨by first | rfl | (simp [errW_none, errW_some] <;> rfl) | (simp [*, errW_none, errW_some] <;> rfl), by repeat (first | (with_reducible first | exact HB.out | apply below_alloc | apply pw_below_drewN | apply below_drew1 | refine below_set ?_ GE232.out) | exact HB.out)⟩
            ·replace c80 := Bool.eq_false_iff.mpr c80
             subst c80
             rw [if_neg (show ¬ (false = true) by decide)] at H
             try dsimp -failIfUnchanged -simprocs only at H
             obtain rfl := Option.some.inj H
             obtain ⟨hcz84_0, hcz84_1, hcz84_2, hcz84_3, hcz84_4, hcz84_5⟩ := Sq.c6 BK232.out
             have hfz84_0 := Sq.fz BK232.out
             go_wp2_with (first | (go_at_call 28; (with_reducible refine (impl_hasPath.calls a0_0 false _ A43.out).mono ?_); rintro e w' ⟨rfl, ⟨nd, rfl⟩⟩) | (go_at_call 31; (with_reducible refine (impl_hasConfig.calls a0_0 true _ A77.out).mono ?_); rintro e w' ⟨rfl, ⟨nd, rfl⟩⟩) | (go_at_call 44; (with_reducible refine (impl_within.calls a0_2 0 3 t245 _ A79.out).mono ?_); rintro e w' ⟨rfl, ⟨nd, rfl⟩⟩))
             go_ret
             exact ⟨by first | rfl | (simp [errW_none, errW_some] <;> rfl) | (simp [*, errW_none, errW_some] <;> rfl), by repeat (first | (with_reducible first | exact HB.out | apply below_alloc | apply pw_below_drewN | apply below_drew1 | refine below_set ?_ GE232.out) | exact HB.out)⟩
           ·replace c78 := Bool.eq_false_iff.mpr c78
            subst c78
            rw [if_neg (show ¬ (false = true) by decide)] at H
            try dsimp -failIfUnchanged -simprocs only at H
            by_cases c85 : x3_10 = true
            ·subst c85
             rw [if_pos rfl] at H
             try dsimp -failIfUnchanged -simprocs only at H
             by_cases c86 : x4_15 = true
             ·subst c86
              rw [if_pos rfl] at H
              try dsimp -failIfUnchanged -simprocs only at H
              obtain rfl := Option.some.inj H
              obtain ⟨hcz87_0, hcz87_1, hcz87_2, hcz87_3, hcz87_4, hcz87_5⟩ := Sq.c6 BK232.out
              have hfz87_0 := Sq.fz BK232.out
              go_wp2_with (first | (go_at_call 28; (with_reducible refine (impl_hasPath.calls a0_0 false _ A43.out).mono ?_); rintro e w' ⟨rfl, ⟨nd, rfl⟩⟩) | (go_at_call 31; (with_reducible refine (impl_hasConfig.calls a0_0 false _ A77.out).mono ?_); rintro e w' ⟨rfl, ⟨nd, rfl⟩⟩))
              go_ret
              exact ⟨by first | rfl | (simp [errW_none, errW_some] <;> rfl) | (simp [*, errW_none, errW_some] <;> rfl), by repeat (first | (with_reducible first | exact HB.out | apply below_alloc | apply pw_below_drewN | apply below_drew1 | refine below_set ?_ GE232.out) | exact HB.out)⟩
             ·replace c86 := Bool.eq_false_iff.mpr c86
              subst c86
              rw [if_neg (show ¬ (false = true) by decide)] at H
              try dsimp -failIfUnchanged -simprocs only at H
              obtain rfl := Option.some.inj H
              obtain ⟨hcz88_0, hcz88_1, hcz88_2, hcz88_3, hcz88_4, hcz88_5⟩ := Sq.c6 BK232.out
              have hfz88_0 := Sq.fz BK232.out
              go_wp2_with (first | (go_at_call 28; (with_reducible refine (impl_hasPath.calls a0_0 false _ A43.out).mono ?_); rintro e w' ⟨rfl, ⟨nd, rfl⟩⟩) | (go_at_call 31; (with_reducible refine (impl_hasConfig.calls a0_0 false _ A77.out).mono ?_); rintro e w' ⟨rfl, ⟨nd, rfl⟩⟩))
              go_ret
              exact ⟨by first | rfl | (simp [errW_none, errW_some] <;> rfl) | (simp [*, errW_none, errW_some] <;> rfl), by repeat (first | (with_reducible first | exact HB.out | apply below_alloc | apply pw_below_drewN | apply below_drew1 | refine below_set ?_ GE232.out) | exact HB.out)⟩
            ·replace c85 := Bool.eq_false_iff.mpr c85
             subst c85
             rw [if_neg (show ¬ (false = true) by decide)] at H
             try dsimp -failIfUnchanged -simprocs only at H
             obtain rfl := Option.some.inj H
             obtain ⟨hcz89_0, hcz89_1, hcz89_2, hcz89_3, hcz89_4, hcz89_5⟩ := Sq.c6 BK232.out
             have hfz89_0 := Sq.fz BK232.out
             go_wp2_with (first | (go_at_call 28; (with_reducible refine (impl_hasPath.calls a0_0 false _ A43.out).mono ?_); rintro e w' ⟨rfl, ⟨nd, rfl⟩⟩) | (go_at_call 31; (with_reducible refine (impl_hasConfig.calls a0_0 false _ A77.out).mono ?_); rintro e w' ⟨rfl, ⟨nd, rfl⟩⟩))
             go_ret
             exact ⟨by first | rfl | (simp [errW_none, errW_some] <;> rfl) | (simp [*, errW_none, errW_some] <;> rfl), by repeat (first | (with_reducible first | exact HB.out | apply below_alloc | apply pw_below_drewN | apply below_drew1 | refine below_set ?_ GE232.out) | exact HB.out)⟩
end Go.Proofs.YtfjnlliilnmfaaaGreatDoor.PRCa
end
