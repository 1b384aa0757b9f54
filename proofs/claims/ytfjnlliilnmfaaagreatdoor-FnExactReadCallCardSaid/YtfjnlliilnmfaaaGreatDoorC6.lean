/-
  WRITTEN BY wip/tools/prune.py out of this claim's texts: the declarations that the theorem comes to, and no others. In it: Rg.
-/
import Derived.Test.YtfjnlliilnmfaaaGreatDoorC5
section
set_option linter.unusedVariables false
set_option linter.unusedSimpArgs false
namespace Go.Proofs.YtfjnlliilnmfaaaGreatDoor.RF
open Go.RowKit Go.Proofs.YtfjnlliilnmfaaaGreatDoorW.PrintWords Go.Proofs.YtfjnlliilnmfaaaGreatDoorW.PrintLast Go.Proofs.YtfjnlliilnmfaaaGreatDoorW.PrintMore Go.Proofs.YtfjnlliilnmfaaaGreatDoor.Given Go.Proofs.YtfjnlliilnmfaaaGreatDoor.PRCa
set_option maxHeartbeats 4000000 in
set_option maxRecDepth 100000 in
theorem rc_fftt (k : Nat) (t : ByteArray) (K : Int) (a0 r0 : ByteArray) (x0 : Bool) (v1 v2 v3 : Int) (v4 : List Int) (v5 v6 : ByteArray) (v7 : Bool) (w : World) (gw : GW w) (h0 : strings_Cut.f t sp = some (a0, r0, x0)) (hK : slices_Index_string_string.f k W10 a0 = some K) (hge : ¬ K < 1)
  (hp : impl_hasPath.f K = some false) (hn : impl_hasName.f K = some false) (hc : impl_hasConfig.f K = some true) (hx : impl_hasText.f K = some true) (h : tailI k t K r0 false false true true = some (v1, v2, v3, v4, v5, v6, v7)) :
  Calls Tryz.prog 11 #[.string t] w fun e w' => ∃ v_ : Value, e = .returned (.tuple #[.agg #[.int .i64 v1, .int .i64 v2, .int .i64 v3, v_, .string v5, .string v6], .bool v7]) ∧ Kd.R (Kd.int .i64) 3 w' w.heap.size (fun _ => True) v_ v4 ∧ Below w.heap.size w w' := by
 have hu24 := Tryz.underlying24
 have eg := enters_of Tryz.func26 (by kernel_rfl) rfl
 have HG := Aside0.mk gw
 have HB := Aside0.mk (Below.refl w.heap.size w)
 have HX0 := Aside0.mk h0
 have HXK := Aside0.mk hK
 have HP := Aside0.mk hp
 have HN := Aside0.mk hn
 have HC := Aside0.mk hc
 have HT := Aside0.mk hx
 have d1 : decide (K < 1) = false := decide_eq_false hge
 clear gw h0 hK hp hn hc hx hge
 unfold tailI at h
 obtain ⟨⟨a1, r1, x1⟩, e1, h⟩ := Option.bind_eq_some_iff.1 h
 obtain ⟨⟨d, bd⟩, e2, h⟩ := Option.bind_eq_some_iff.1 h
 have HX1 := Aside0.mk e1
 have HXd := Aside0.mk e2
 clear e1 e2
 obtain ⟨⟨y1, y2⟩, e3, h⟩ := Option.bind_eq_some_iff.1 h
 rw [if_neg (by decide)] at e3
 simp only [Option.some.injEq, Prod.mk.injEq] at e3
 obtain ⟨rfl, rfl⟩ := e3
 obtain ⟨⟨z1, z2⟩, e6, h⟩ := Option.bind_eq_some_iff.1 h
 rw [if_neg (by decide)] at e6
 simp only [Option.some.injEq, Prod.mk.injEq] at e6
 obtain ⟨rfl, rfl⟩ := e6
 obtain ⟨⟨u1, u2⟩, e8, h⟩ := Option.bind_eq_some_iff.1 h
 rw [if_pos rfl] at e8
 obtain ⟨⟨a4, r4, x4⟩, e9, e8⟩ := Option.bind_eq_some_iff.1 e8
 obtain ⟨⟨g, bg⟩, e10, e8⟩ := Option.bind_eq_some_iff.1 e8
 simp only [Option.some.injEq, Prod.mk.injEq] at e8
 obtain ⟨rfl, rfl⟩ := e8
 have HX4 := Aside0.mk e9
 have HXg := Aside0.mk e10
 clear e9 e10
 obtain ⟨ok, e11, h⟩ := Option.bind_eq_some_iff.1 h
 simp only [if_true] at e11 h
 have HXo := Aside0.mk e11
 clear e11
 have HH := Aside0.mk h
 clear h
 go_enter Tryz.func11, Tryz.ntmps11
 go_upto_region 15 with (first | ((with_reducible refine gate_dst (N := 2) rfl ?_); refine box_event ?hg (N := 2) ?hd (cs := #[.int .i64 0, .int .i64 0, .int .i64 0, .slice none 0 0, .string (⟨#[]⟩ : ByteArray), .string (⟨#[]⟩ : ByteArray)]) (t := 24) ?hr ?_; (case hd => rfl); (case hg => rfl); (case hr => first | (go_simp; done) | (go_simp; rfl)); intro b2 hg w1_ hbox hb; have GEb2 := gE hg HB; replace HB := lS HB hb; have BKb2 := Aside0.mk hbox; clear hb hbox hg) | ((with_reducible refine gate_callee (f := 23) rfl ?_); refine goM (some 11) Tryz.func23 #[.string t, .string sp] ?_; refine (strings_Cut.calls t sp a0 r0 x0 _ (HG.out.below HB.out) HX0.out).mono ?_; rintro e w2_ ⟨rfl, hb⟩; refine ⟨_, rfl, ?_⟩; replace BKb2 := lB BKb2 hb; replace HB := lS HB hb; clear hb) | ((with_reducible refine gate_dst (N := 5) rfl ?_); refine box_event ?hg (N := 5) ?hd (cs := #[.string (⟨#[]⟩ : ByteArray)]) (t := 9) ?hr ?_; (case hd => rfl); (case hg => rfl); (case hr => first | (go_simp; done) | (go_simp; rfl)); intro b5 hg w3_ hbox hb; have Nb2b5 := nL hg BKb2; have Nb5b2 := nG hg BKb2; have GEb5 := gE hg HB; replace BKb2 := lB BKb2 hb; replace HB := lS HB hb; have BKb5 := Aside0.mk hbox; clear hb hbox hg) | ((with_reducible refine gate_store (p := 5) rfl ?_); refine store_event rfl rfl (w1 := ?w4_n1) ?w4_r1 ?_; (case w4_r1 => (have hz := cel BKb5 0 rfl; have hf := fz BKb5; go_simp; rfl)); generalize hW : World.setCell _ ⟨b5, 0, none⟩ _ = w5_; replace BKb2 := fS1 hW BKb2 Nb2b5; replace BKb5 := pS1 (cs' := #[.string r0]) hW BKb5 rfl; replace HB := sS1 hW HB GEb5; clear hW) | ((with_reducible refine gate_callee (f := 25) rfl ?_); refine goM (some 15) Tryz.func25 #[] ?_; refine (impl_callWords.calls W10 _ W10_is).mono ?_; rintro e w6_ ⟨vw_, rfl, ho0, hb⟩; refine ⟨_, rfl, ?_⟩; have nw_ := Aside0.mk (Kd.R_lower ho0 (below_size HB.out)); clear ho0; replace BKb2 := lB BKb2 hb; replace BKb5 := lB BKb5 hb; replace HB := lS HB hb; clear hb; have HW := nw_; clear nw_; obtain ⟨Aw, cw, ew⟩ := Kd.R_slice HW.out; subst ew) | ((with_reducible refine gate_callee (f := 24) rfl ?_); refine goM (some 17) Tryz.func24 #[.slice Aw W10.length cw, .string a0] ?_; refine (slices_Index_string_string.calls k _ _ W10 a0 K _ (Kd.R_reads' HW.out).2.2 (Kd.R_reads' HW.out).2.1 HXK.out).mono ?_; rintro e w' ⟨rfl, hd⟩; refine ⟨_, rfl, ?_⟩; have hb := Go.Proofs.YtfjnlliilnmfaaaGreatDoor.RF.drawn_below hd; clear hd; replace BKb2 := lB BKb2 hb; replace BKb5 := lB BKb5 hb; replace HW := lR HW hb; replace HB := lS HB hb; clear hb) | ((with_reducible refine gate_dst (N := 7) rfl ?_); refine box_event ?hg (N := 7) ?hd (cs := #[.int .i64 0, .int .i64 0, .int .i64 0, .slice none 0 0, .string (⟨#[]⟩ : ByteArray), .string (⟨#[]⟩ : ByteArray)]) (t := 24) ?hr ?_; (case hd => rfl); (case hg => rfl); (case hr => first | (go_simp; done) | (go_simp; rfl)); intro b7 hg w7_ hbox hb; have Nb2b7 := nL hg BKb2; have Nb7b2 := nG hg BKb2; have Nb5b7 := nL hg BKb5; have Nb7b5 := nG hg BKb5; have GEb7 := gE hg HB; replace BKb2 := lB BKb2 hb; replace BKb5 := lB BKb5 hb; replace HB := lS HB hb; have BKb7 := Aside0.mk hbox; clear hb hbox hg) | ((with_reducible refine gate_store (p := 7) rfl ?_); refine store_event rfl rfl (w1 := ?w8_n1) ?w8_r1 ?_; (case w8_r1 => (obtain ⟨hz0, hz1, hz2, hz3, hz4, hz5⟩ := cS6 BKb7; have hf := fz BKb7; go_simp; rfl)); generalize hW : World.setCell _ ⟨b7, 5, none⟩ _ = w9_; replace BKb2 := fS6 hW BKb2 Nb2b7; replace BKb5 := fS6 hW BKb5 Nb5b7; replace BKb7 := pS6 hW BKb7; replace HB := sS6 hW HB GEb7; clear hW; obtain ⟨hz20_0, hz20_1, hz20_2, hz20_3, hz20_4, hz20_5⟩ := cS6 BKb7; have hf20_ := fz BKb7) | ((with_reducible refine gate_dst (N := 26) rfl ?_); refine goesV_ (p := 25) (some 26) rfl rfl Tryz.func26 (by kernel_rfl) rfl #[.pointer (some ⟨b5, 0, none⟩)] rfl rfl ?_; refine (next_calls (HG.out.below HB.out) HX1.out BKb5.out).mono ?_; rintro e w10_ ⟨rfl, h5, hg⟩; refine ⟨_, rfl, ?_⟩; replace BKb2 := lG BKb2 hg Nb2b5; replace BKb7 := lG BKb7 hg Nb7b5; replace BKb5 := Aside0.mk h5; replace HB := gS HB hg GEb5; clear h5 hg) | ((with_reducible refine gate_callee (f := 27) rfl ?_); refine goM (some 27) Tryz.func27 #[.string a1] ?_; refine (impl_number.calls a1 d bd _ (HG.out.below HB.out) HXd.out).mono ?_; rintro e w11_ ⟨rfl, hb⟩; refine ⟨_, rfl, ?_⟩; replace BKb2 := lB BKb2 hb; replace BKb5 := lB BKb5 hb; replace BKb7 := lB BKb7 hb; replace HB := lS HB hb; clear hb) | ((with_reducible refine gate_store (p := 30) rfl ?_); refine store_event rfl rfl (w1 := ?w12_n1) ?w12_r1 ?_; (case w12_r1 => (have hz := cel BKb7 1 rfl; have hf := fz BKb7; go_simp; rfl)); generalize hW : World.setCell _ ⟨b7, 1, none⟩ _ = w13_; replace BKb2 := fS1 hW BKb2 Nb2b7; replace BKb5 := fS1 hW BKb5 Nb5b7; replace BKb7 := pS1 (cs' := #[.int .i64 K, .int .i64 d, .int .i64 0, .slice none 0 0, .string (⟨#[]⟩ : ByteArray), .string (⟨#[]⟩ : ByteArray)]) hW BKb7 rfl; replace HB := sS1 hW HB GEb7; clear hW; obtain ⟨hz32_0, hz32_1, hz32_2, hz32_3, hz32_4, hz32_5⟩ := cS6 BKb7; have hf32_ := fz BKb7) | ((with_reducible refine gate_callee (f := 28) rfl ?_); refine goM (some 33) Tryz.func28 #[.int .i64 K] ?_; refine (impl_hasPath.calls K _ _ HP.out).mono ?_; rintro e w' ⟨rfl, hd⟩; refine ⟨_, rfl, ?_⟩; have hb := Go.Proofs.YtfjnlliilnmfaaaGreatDoor.RF.drawn_below hd; clear hd; replace BKb2 := lB BKb2 hb; replace BKb5 := lB BKb5 hb; replace BKb7 := lB BKb7 hb; replace HB := lS HB hb; clear hb; obtain ⟨hz42_0, hz42_1, hz42_2, hz42_3, hz42_4, hz42_5⟩ := cS6 BKb7; have hf42_ := fz BKb7) | ((with_reducible refine gate_callee (f := 30) rfl ?_); refine goM (some 43) Tryz.func30 #[.int .i64 K] ?_; refine (impl_hasName.calls K _ _ HN.out).mono ?_; rintro e w' ⟨rfl, hd⟩; refine ⟨_, rfl, ?_⟩; have hb := Go.Proofs.YtfjnlliilnmfaaaGreatDoor.RF.drawn_below hd; clear hd; replace BKb2 := lB BKb2 hb; replace BKb5 := lB BKb5 hb; replace BKb7 := lB BKb7 hb; replace HB := lS HB hb; clear hb; obtain ⟨hz48_0, hz48_1, hz48_2, hz48_3, hz48_4, hz48_5⟩ := cS6 BKb7; have hf48_ := fz BKb7) | ((with_reducible refine gate_callee (f := 31) rfl ?_); refine goM (some 49) Tryz.func31 #[.int .i64 K] ?_; refine (impl_hasConfig.calls K _ _ HC.out).mono ?_; rintro e w' ⟨rfl, hd⟩; refine ⟨_, rfl, ?_⟩; have hb := Go.Proofs.YtfjnlliilnmfaaaGreatDoor.RF.drawn_below hd; clear hd; replace BKb2 := lB BKb2 hb; replace BKb5 := lB BKb5 hb; replace BKb7 := lB BKb7 hb; replace HB := lS HB hb; clear hb) | ((with_reducible refine gate_dst (N := 52) rfl ?_); refine goesV_ (p := 51) (some 52) rfl rfl Tryz.func26 (by kernel_rfl) rfl #[.pointer (some ⟨b5, 0, none⟩)] rfl rfl ?_; refine (next_calls (HG.out.below HB.out) HX4.out BKb5.out).mono ?_; rintro e w14_ ⟨rfl, h5, hg⟩; refine ⟨_, rfl, ?_⟩; replace BKb2 := lG BKb2 hg Nb2b5; replace BKb7 := lG BKb7 hg Nb7b5; replace BKb5 := Aside0.mk h5; replace HB := gS HB hg GEb5; clear h5 hg) | ((with_reducible refine gate_callee (f := 27) rfl ?_); refine goM (some 53) Tryz.func27 #[.string a4] ?_; refine (impl_number.calls a4 g bg _ (HG.out.below HB.out) HXg.out).mono ?_; rintro e w15_ ⟨rfl, hb⟩; refine ⟨_, rfl, ?_⟩; replace BKb2 := lB BKb2 hb; replace BKb5 := lB BKb5 hb; replace BKb7 := lB BKb7 hb; replace HB := lS HB hb; clear hb) | ((with_reducible refine gate_store (p := 56) rfl ?_); refine store_event rfl rfl (w1 := ?w16_n1) ?w16_r1 ?_; (case w16_r1 => (have hz := cel BKb7 2 rfl; have hf := fz BKb7; go_simp; rfl)); generalize hW : World.setCell _ ⟨b7, 2, none⟩ _ = w17_; replace BKb2 := fS1 hW BKb2 Nb2b7; replace BKb5 := fS1 hW BKb5 Nb5b7; replace BKb7 := pS1 (cs' := #[.int .i64 K, .int .i64 d, .int .i64 g, .slice none 0 0, .string (⟨#[]⟩ : ByteArray), .string (⟨#[]⟩ : ByteArray)]) hW BKb7 rfl; replace HB := sS1 hW HB GEb7; clear hW; obtain ⟨hz58_0, hz58_1, hz58_2, hz58_3, hz58_4, hz58_5⟩ := cS6 BKb7; have hf58_ := fz BKb7) | ((with_reducible refine gate_callee (f := 32) rfl ?_); refine goM (some 59) Tryz.func32 #[.int .i64 K] ?_; refine (impl_hasText.calls K _ _ HT.out).mono ?_; rintro e w' ⟨rfl, hd⟩; refine ⟨_, rfl, ?_⟩; have hb := Go.Proofs.YtfjnlliilnmfaaaGreatDoor.RF.drawn_below hd; clear hd; replace BKb2 := lB BKb2 hb; replace BKb5 := lB BKb5 hb; replace BKb7 := lB BKb7 hb; replace HB := lS HB hb; clear hb; have hz60_0 := cel BKb5 0 rfl; have hf60_ := fz BKb5) | ((with_reducible refine gate_store (p := 61) rfl ?_); refine store_event rfl rfl (w1 := ?w18_n1) ?w18_r1 ?_; (case w18_r1 => (have hz := cel BKb7 5 rfl; have hf := fz BKb7; go_simp; rfl)); generalize hW : World.setCell _ ⟨b7, 5, none⟩ _ = w19_; replace BKb2 := fS1 hW BKb2 Nb2b7; replace BKb5 := fS1 hW BKb5 Nb5b7; replace BKb7 := pS1 (cs' := #[.int .i64 K, .int .i64 d, .int .i64 g, .slice none 0 0, .string (⟨#[]⟩ : ByteArray), .string r4]) hW BKb7 rfl; replace HB := sS1 hW HB GEb7; clear hW; obtain ⟨hz62_0, hz62_1, hz62_2, hz62_3, hz62_4, hz62_5⟩ := cS6 BKb7; have hf62_ := fz BKb7))
 have h := HH.out
 clear HH
 cases ok
 case false =>
  simp only [Bool.false_eq_true, if_false, Option.some.injEq, Prod.mk.injEq] at h
  obtain ⟨rfl, rfl, rfl, rfl, rfl, rfl, rfl⟩ := h
  go_wp2_with (first | ((with_reducible refine gate_callee (f := 33) rfl ?_); refine goM (some 63) Tryz.func33 #[.agg #[.int .i64 K, .int .i64 d, .int .i64 g, .slice none 0 0, .string (⟨#[]⟩ : ByteArray), .string r4]] ?_; refine (impl_CallOK.calls k K d g none 0 ([] : List Int) (⟨#[]⟩ : ByteArray) r4 _ _ (Kd.R_reads' (Kd.R_nil (Kd.int .i64) 3 _ w.heap.size (fun _ => True))).2.2 (Nat.le_refl 0) HXo.out).mono ?_; rintro e w20_ ⟨rfl, hb⟩; refine ⟨_, rfl, ?_⟩; replace BKb2 := lB BKb2 hb; replace BKb5 := lB BKb5 hb; replace BKb7 := lB BKb7 hb; replace HB := lS HB hb; clear hb) | ((with_reducible refine gate_store (p := 2) rfl ?_); refine store_event rfl rfl (w1 := ?w21_n2) ?w21_r2 ?_; (case w21_r2 => (obtain ⟨hz0, hz1, hz2, hz3, hz4, hz5⟩ := cS6 BKb2; have hf := fz BKb2; go_simp; rfl)); generalize hW : World.setCell _ ⟨b2, 5, none⟩ _ = w22_; replace BKb5 := fS6 hW BKb5 Nb5b2; replace BKb7 := fS6 hW BKb7 Nb7b2; replace BKb2 := pS6 hW BKb2; replace HB := sS6 hW HB GEb2; clear hW))
  refine bodyPost_ret (results_ct rfl _ _ b2 24 #[.int .i64 0, .int .i64 0, .int .i64 0, .slice none 0 0, .string (⟨#[]⟩ : ByteArray), .string (⟨#[]⟩ : ByteArray)] (0, 0) _ rfl BKb2.out Tryz.underlying24 rfl (by kernel_rfl)) rfl ?_
  exact ⟨_, rfl, Kd.R_nil _ _ _ _ _, HB.out⟩
 case true =>
  rw [if_pos rfl] at h
  obtain ⟨ct, e12, h⟩ := Option.bind_eq_some_iff.1 h
  have HXt := Aside0.mk e12
  clear e12
  by_cases hct : ct.toList = t.toList
  ·rw [if_pos hct] at h
   have t1 : (ct.toList != t.toList) = false := by rw [hct]; simp
   have t2 : (ct.toList == t.toList) = true := by rw [hct]; simp
   clear hct
   simp only [Option.some.injEq, Prod.mk.injEq] at h
   obtain ⟨rfl, rfl, rfl, rfl, rfl, rfl, rfl⟩ := h
   go_wp2_with (first | ((with_reducible refine gate_callee (f := 33) rfl ?_); refine goM (some 63) Tryz.func33 #[.agg #[.int .i64 K, .int .i64 d, .int .i64 g, .slice none 0 0, .string (⟨#[]⟩ : ByteArray), .string r4]] ?_; refine (impl_CallOK.calls k K d g none 0 ([] : List Int) (⟨#[]⟩ : ByteArray) r4 _ _ (Kd.R_reads' (Kd.R_nil (Kd.int .i64) 3 _ w.heap.size (fun _ => True))).2.2 (Nat.le_refl 0) HXo.out).mono ?_; rintro e w20_ ⟨rfl, hb⟩; refine ⟨_, rfl, ?_⟩; replace BKb2 := lB BKb2 hb; replace BKb5 := lB BKb5 hb; replace BKb7 := lB BKb7 hb; replace HB := lS HB hb; clear hb; obtain ⟨hz66_0, hz66_1, hz66_2, hz66_3, hz66_4, hz66_5⟩ := cS6 BKb7; have hf66_ := fz BKb7) | ((with_reducible refine gate_dst (N := 67) rfl ?_); (try (refine gate_guard (by rfl) ?_; dsimp only)); (with_reducible refine gate_callee (f := 34) rfl ?_); refine goM (some 67) Tryz.func34 #[.agg #[.int .i64 K, .int .i64 d, .int .i64 g, .slice none 0 0, .string (⟨#[]⟩ : ByteArray), .string r4]] ?_; refine (impl_callText.calls k K d g none 0 ([] : List Int) (⟨#[]⟩ : ByteArray) r4 ct _ (HG.out.below HB.out) (Kd.R_reads' (Kd.R_nil (Kd.int .i64) 3 _ w.heap.size (fun _ => True))).2.2 (Nat.le_refl 0) HXt.out).mono ?_; rintro e w21_ ⟨rfl, hb⟩; refine ⟨_, rfl, ?_⟩; replace BKb2 := lB BKb2 hb; replace BKb5 := lB BKb5 hb; replace BKb7 := lB BKb7 hb; replace HB := lS HB hb; clear hb; obtain ⟨hz72_0, hz72_1, hz72_2, hz72_3, hz72_4, hz72_5⟩ := cS6 BKb7; have hf72_ := fz BKb7) | ((with_reducible refine gate_store (p := 2) rfl ?_); refine store_event rfl rfl (w1 := ?w22_n3) ?w22_r3 ?_; (case w22_r3 => (obtain ⟨hz0, hz1, hz2, hz3, hz4, hz5⟩ := cS6 BKb2; have hf := fz BKb2; go_simp; rfl)); generalize hW : World.setCell _ ⟨b2, 5, none⟩ _ = w23_; replace BKb5 := fS6 hW BKb5 Nb5b2; replace BKb7 := fS6 hW BKb7 Nb7b2; replace BKb2 := pS6 hW BKb2; replace HB := sS6 hW HB GEb2; clear hW))
   refine bodyPost_ret (results_ct rfl _ _ b2 24 #[.int .i64 K, .int .i64 d, .int .i64 g, .slice none 0 0, .string (⟨#[]⟩ : ByteArray), .string r4] (0, 0) _ rfl BKb2.out Tryz.underlying24 rfl (by kernel_rfl)) rfl ?_
   exact ⟨_, rfl, Kd.R_nil _ _ _ _ _, HB.out⟩
  ·rw [if_neg hct] at h
   have t1 : (ct.toList != t.toList) = true := by simpa using hct
   have t2 : (ct.toList == t.toList) = false := by simpa using hct
   clear hct
   simp only [Option.some.injEq, Prod.mk.injEq] at h
   obtain ⟨rfl, rfl, rfl, rfl, rfl, rfl, rfl⟩ := h
   go_wp2_with (first | ((with_reducible refine gate_callee (f := 33) rfl ?_); refine goM (some 63) Tryz.func33 #[.agg #[.int .i64 K, .int .i64 d, .int .i64 g, .slice none 0 0, .string (⟨#[]⟩ : ByteArray), .string r4]] ?_; refine (impl_CallOK.calls k K d g none 0 ([] : List Int) (⟨#[]⟩ : ByteArray) r4 _ _ (Kd.R_reads' (Kd.R_nil (Kd.int .i64) 3 _ w.heap.size (fun _ => True))).2.2 (Nat.le_refl 0) HXo.out).mono ?_; rintro e w20_ ⟨rfl, hb⟩; refine ⟨_, rfl, ?_⟩; replace BKb2 := lB BKb2 hb; replace BKb5 := lB BKb5 hb; replace BKb7 := lB BKb7 hb; replace HB := lS HB hb; clear hb; obtain ⟨hz66_0, hz66_1, hz66_2, hz66_3, hz66_4, hz66_5⟩ := cS6 BKb7; have hf66_ := fz BKb7) | ((with_reducible refine gate_dst (N := 67) rfl ?_); (try (refine gate_guard (by rfl) ?_; dsimp only)); (with_reducible refine gate_callee (f := 34) rfl ?_); refine goM (some 67) Tryz.func34 #[.agg #[.int .i64 K, .int .i64 d, .int .i64 g, .slice none 0 0, .string (⟨#[]⟩ : ByteArray), .string r4]] ?_; refine (impl_callText.calls k K d g none 0 ([] : List Int) (⟨#[]⟩ : ByteArray) r4 ct _ (HG.out.below HB.out) (Kd.R_reads' (Kd.R_nil (Kd.int .i64) 3 _ w.heap.size (fun _ => True))).2.2 (Nat.le_refl 0) HXt.out).mono ?_; rintro e w21_ ⟨rfl, hb⟩; refine ⟨_, rfl, ?_⟩; replace BKb2 := lB BKb2 hb; replace BKb5 := lB BKb5 hb; replace BKb7 := lB BKb7 hb; replace HB := lS HB hb; clear hb) | ((with_reducible refine gate_store (p := 2) rfl ?_); refine store_event rfl rfl (w1 := ?w22_n4) ?w22_r4 ?_; (case w22_r4 => (obtain ⟨hz0, hz1, hz2, hz3, hz4, hz5⟩ := cS6 BKb2; have hf := fz BKb2; go_simp; rfl)); generalize hW : World.setCell _ ⟨b2, 5, none⟩ _ = w23_; replace BKb5 := fS6 hW BKb5 Nb5b2; replace BKb7 := fS6 hW BKb7 Nb7b2; replace BKb2 := pS6 hW BKb2; replace HB := sS6 hW HB GEb2; clear hW))
   refine bodyPost_ret (results_ct rfl _ _ b2 24 #[.int .i64 0, .int .i64 0, .int .i64 0, .slice none 0 0, .string (⟨#[]⟩ : ByteArray), .string (⟨#[]⟩ : ByteArray)] (0, 0) _ rfl BKb2.out Tryz.underlying24 rfl (by kernel_rfl)) rfl ?_
   exact ⟨_, rfl, Kd.R_nil _ _ _ _ _, HB.out⟩
set_option maxHeartbeats 4000000 in
set_option maxRecDepth 100000 in
theorem rc_ffft (k : Nat) (t : ByteArray) (K : Int) (a0 r0 : ByteArray) (x0 : Bool) (v1 v2 v3 : Int) (v4 : List Int) (v5 v6 : ByteArray) (v7 : Bool) (w : World) (gw : GW w) (h0 : strings_Cut.f t sp = some (a0, r0, x0)) (hK : slices_Index_string_string.f k W10 a0 = some K) (hge : ¬ K < 1)
  (hp : impl_hasPath.f K = some false) (hn : impl_hasName.f K = some false) (hc : impl_hasConfig.f K = some false) (hx : impl_hasText.f K = some true) (h : tailI k t K r0 false false false true = some (v1, v2, v3, v4, v5, v6, v7)) :
  Calls Tryz.prog 11 #[.string t] w fun e w' => ∃ v_ : Value, e = .returned (.tuple #[.agg #[.int .i64 v1, .int .i64 v2, .int .i64 v3, v_, .string v5, .string v6], .bool v7]) ∧ Kd.R (Kd.int .i64) 3 w' w.heap.size (fun _ => True) v_ v4 ∧ Below w.heap.size w w' := by
 have hu24 := Tryz.underlying24
 have eg := enters_of Tryz.func26 (by kernel_rfl) rfl
 have HG := Aside0.mk gw
 have HB := Aside0.mk (Below.refl w.heap.size w)
 have HX0 := Aside0.mk h0
 have HXK := Aside0.mk hK
 have HP := Aside0.mk hp
 have HN := Aside0.mk hn
 have HC := Aside0.mk hc
 have HT := Aside0.mk hx
 have d1 : decide (K < 1) = false := decide_eq_false hge
 clear gw h0 hK hp hn hc hx hge
 unfold tailI at h
 obtain ⟨⟨a1, r1, x1⟩, e1, h⟩ := Option.bind_eq_some_iff.1 h
 obtain ⟨⟨d, bd⟩, e2, h⟩ := Option.bind_eq_some_iff.1 h
 have HX1 := Aside0.mk e1
 have HXd := Aside0.mk e2
 clear e1 e2
 obtain ⟨⟨y1, y2⟩, e3, h⟩ := Option.bind_eq_some_iff.1 h
 rw [if_neg (by decide)] at e3
 simp only [Option.some.injEq, Prod.mk.injEq] at e3
 obtain ⟨rfl, rfl⟩ := e3
 obtain ⟨⟨z1, z2⟩, e6, h⟩ := Option.bind_eq_some_iff.1 h
 rw [if_neg (by decide)] at e6
 simp only [Option.some.injEq, Prod.mk.injEq] at e6
 obtain ⟨rfl, rfl⟩ := e6
 obtain ⟨⟨u1, u2⟩, e8, h⟩ := Option.bind_eq_some_iff.1 h
 rw [if_neg (by decide)] at e8
 simp only [Option.some.injEq, Prod.mk.injEq] at e8
 obtain ⟨rfl, rfl⟩ := e8
 obtain ⟨ok, e11, h⟩ := Option.bind_eq_some_iff.1 h
 simp only [if_true] at e11 h
 have HXo := Aside0.mk e11
 clear e11
 have HH := Aside0.mk h
 clear h
 go_enter Tryz.func11, Tryz.ntmps11
 go_upto_region 15 with (first | ((with_reducible refine gate_dst (N := 2) rfl ?_); refine box_event ?hg (N := 2) ?hd (cs := #[.int .i64 0, .int .i64 0, .int .i64 0, .slice none 0 0, .string (⟨#[]⟩ : ByteArray), .string (⟨#[]⟩ : ByteArray)]) (t := 24) ?hr ?_; (case hd => rfl); (case hg => rfl); (case hr => first | (go_simp; done) | (go_simp; rfl)); intro b2 hg w1_ hbox hb; have GEb2 := gE hg HB; replace HB := lS HB hb; have BKb2 := Aside0.mk hbox; clear hb hbox hg) | ((with_reducible refine gate_callee (f := 23) rfl ?_); refine goM (some 11) Tryz.func23 #[.string t, .string sp] ?_; refine (strings_Cut.calls t sp a0 r0 x0 _ (HG.out.below HB.out) HX0.out).mono ?_; rintro e w2_ ⟨rfl, hb⟩; refine ⟨_, rfl, ?_⟩; replace BKb2 := lB BKb2 hb; replace HB := lS HB hb; clear hb) | ((with_reducible refine gate_dst (N := 5) rfl ?_); refine box_event ?hg (N := 5) ?hd (cs := #[.string (⟨#[]⟩ : ByteArray)]) (t := 9) ?hr ?_; (case hd => rfl); (case hg => rfl); (case hr => first | (go_simp; done) | (go_simp; rfl)); intro b5 hg w3_ hbox hb; have Nb2b5 := nL hg BKb2; have Nb5b2 := nG hg BKb2; have GEb5 := gE hg HB; replace BKb2 := lB BKb2 hb; replace HB := lS HB hb; have BKb5 := Aside0.mk hbox; clear hb hbox hg) | ((with_reducible refine gate_store (p := 5) rfl ?_); refine store_event rfl rfl (w1 := ?w4_n5) ?w4_r5 ?_; (case w4_r5 => (have hz := cel BKb5 0 rfl; have hf := fz BKb5; go_simp; rfl)); generalize hW : World.setCell _ ⟨b5, 0, none⟩ _ = w5_; replace BKb2 := fS1 hW BKb2 Nb2b5; replace BKb5 := pS1 (cs' := #[.string r0]) hW BKb5 rfl; replace HB := sS1 hW HB GEb5; clear hW) | ((with_reducible refine gate_callee (f := 25) rfl ?_); refine goM (some 15) Tryz.func25 #[] ?_; refine (impl_callWords.calls W10 _ W10_is).mono ?_; rintro e w6_ ⟨vw_, rfl, ho0, hb⟩; refine ⟨_, rfl, ?_⟩; have nw_ := Aside0.mk (Kd.R_lower ho0 (below_size HB.out)); clear ho0; replace BKb2 := lB BKb2 hb; replace BKb5 := lB BKb5 hb; replace HB := lS HB hb; clear hb; have HW := nw_; clear nw_; obtain ⟨Aw, cw, ew⟩ := Kd.R_slice HW.out; subst ew) | ((with_reducible refine gate_callee (f := 24) rfl ?_); refine goM (some 17) Tryz.func24 #[.slice Aw W10.length cw, .string a0] ?_; refine (slices_Index_string_string.calls k _ _ W10 a0 K _ (Kd.R_reads' HW.out).2.2 (Kd.R_reads' HW.out).2.1 HXK.out).mono ?_; rintro e w' ⟨rfl, hd⟩; refine ⟨_, rfl, ?_⟩; have hb := Go.Proofs.YtfjnlliilnmfaaaGreatDoor.RF.drawn_below hd; clear hd; replace BKb2 := lB BKb2 hb; replace BKb5 := lB BKb5 hb; replace HW := lR HW hb; replace HB := lS HB hb; clear hb) | ((with_reducible refine gate_dst (N := 7) rfl ?_); refine box_event ?hg (N := 7) ?hd (cs := #[.int .i64 0, .int .i64 0, .int .i64 0, .slice none 0 0, .string (⟨#[]⟩ : ByteArray), .string (⟨#[]⟩ : ByteArray)]) (t := 24) ?hr ?_; (case hd => rfl); (case hg => rfl); (case hr => first | (go_simp; done) | (go_simp; rfl)); intro b7 hg w7_ hbox hb; have Nb2b7 := nL hg BKb2; have Nb7b2 := nG hg BKb2; have Nb5b7 := nL hg BKb5; have Nb7b5 := nG hg BKb5; have GEb7 := gE hg HB; replace BKb2 := lB BKb2 hb; replace BKb5 := lB BKb5 hb; replace HB := lS HB hb; have BKb7 := Aside0.mk hbox; clear hb hbox hg) | ((with_reducible refine gate_store (p := 7) rfl ?_); refine store_event rfl rfl (w1 := ?w8_n5) ?w8_r5 ?_; (case w8_r5 => (obtain ⟨hz0, hz1, hz2, hz3, hz4, hz5⟩ := cS6 BKb7; have hf := fz BKb7; go_simp; rfl)); generalize hW : World.setCell _ ⟨b7, 5, none⟩ _ = w9_; replace BKb2 := fS6 hW BKb2 Nb2b7; replace BKb5 := fS6 hW BKb5 Nb5b7; replace BKb7 := pS6 hW BKb7; replace HB := sS6 hW HB GEb7; clear hW; obtain ⟨hz20_0, hz20_1, hz20_2, hz20_3, hz20_4, hz20_5⟩ := cS6 BKb7; have hf20_ := fz BKb7) | ((with_reducible refine gate_dst (N := 26) rfl ?_); refine goesV_ (p := 25) (some 26) rfl rfl Tryz.func26 (by kernel_rfl) rfl #[.pointer (some ⟨b5, 0, none⟩)] rfl rfl ?_; refine (next_calls (HG.out.below HB.out) HX1.out BKb5.out).mono ?_; rintro e w10_ ⟨rfl, h5, hg⟩; refine ⟨_, rfl, ?_⟩; replace BKb2 := lG BKb2 hg Nb2b5; replace BKb7 := lG BKb7 hg Nb7b5; replace BKb5 := Aside0.mk h5; replace HB := gS HB hg GEb5; clear h5 hg) | ((with_reducible refine gate_callee (f := 27) rfl ?_); refine goM (some 27) Tryz.func27 #[.string a1] ?_; refine (impl_number.calls a1 d bd _ (HG.out.below HB.out) HXd.out).mono ?_; rintro e w11_ ⟨rfl, hb⟩; refine ⟨_, rfl, ?_⟩; replace BKb2 := lB BKb2 hb; replace BKb5 := lB BKb5 hb; replace BKb7 := lB BKb7 hb; replace HB := lS HB hb; clear hb) | ((with_reducible refine gate_store (p := 30) rfl ?_); refine store_event rfl rfl (w1 := ?w12_n5) ?w12_r5 ?_; (case w12_r5 => (have hz := cel BKb7 1 rfl; have hf := fz BKb7; go_simp; rfl)); generalize hW : World.setCell _ ⟨b7, 1, none⟩ _ = w13_; replace BKb2 := fS1 hW BKb2 Nb2b7; replace BKb5 := fS1 hW BKb5 Nb5b7; replace BKb7 := pS1 (cs' := #[.int .i64 K, .int .i64 d, .int .i64 0, .slice none 0 0, .string (⟨#[]⟩ : ByteArray), .string (⟨#[]⟩ : ByteArray)]) hW BKb7 rfl; replace HB := sS1 hW HB GEb7; clear hW; obtain ⟨hz32_0, hz32_1, hz32_2, hz32_3, hz32_4, hz32_5⟩ := cS6 BKb7; have hf32_ := fz BKb7) | ((with_reducible refine gate_callee (f := 28) rfl ?_); refine goM (some 33) Tryz.func28 #[.int .i64 K] ?_; refine (impl_hasPath.calls K _ _ HP.out).mono ?_; rintro e w' ⟨rfl, hd⟩; refine ⟨_, rfl, ?_⟩; have hb := Go.Proofs.YtfjnlliilnmfaaaGreatDoor.RF.drawn_below hd; clear hd; replace BKb2 := lB BKb2 hb; replace BKb5 := lB BKb5 hb; replace BKb7 := lB BKb7 hb; replace HB := lS HB hb; clear hb; obtain ⟨hz42_0, hz42_1, hz42_2, hz42_3, hz42_4, hz42_5⟩ := cS6 BKb7; have hf42_ := fz BKb7) | ((with_reducible refine gate_callee (f := 30) rfl ?_); refine goM (some 43) Tryz.func30 #[.int .i64 K] ?_; refine (impl_hasName.calls K _ _ HN.out).mono ?_; rintro e w' ⟨rfl, hd⟩; refine ⟨_, rfl, ?_⟩; have hb := Go.Proofs.YtfjnlliilnmfaaaGreatDoor.RF.drawn_below hd; clear hd; replace BKb2 := lB BKb2 hb; replace BKb5 := lB BKb5 hb; replace BKb7 := lB BKb7 hb; replace HB := lS HB hb; clear hb; obtain ⟨hz48_0, hz48_1, hz48_2, hz48_3, hz48_4, hz48_5⟩ := cS6 BKb7; have hf48_ := fz BKb7) | ((with_reducible refine gate_callee (f := 31) rfl ?_); refine goM (some 49) Tryz.func31 #[.int .i64 K] ?_; refine (impl_hasConfig.calls K _ _ HC.out).mono ?_; rintro e w' ⟨rfl, hd⟩; refine ⟨_, rfl, ?_⟩; have hb := Go.Proofs.YtfjnlliilnmfaaaGreatDoor.RF.drawn_below hd; clear hd; replace BKb2 := lB BKb2 hb; replace BKb5 := lB BKb5 hb; replace BKb7 := lB BKb7 hb; replace HB := lS HB hb; clear hb; obtain ⟨hz58_0, hz58_1, hz58_2, hz58_3, hz58_4, hz58_5⟩ := cS6 BKb7; have hf58_ := fz BKb7) | ((with_reducible refine gate_callee (f := 32) rfl ?_); refine goM (some 59) Tryz.func32 #[.int .i64 K] ?_; refine (impl_hasText.calls K _ _ HT.out).mono ?_; rintro e w' ⟨rfl, hd⟩; refine ⟨_, rfl, ?_⟩; have hb := Go.Proofs.YtfjnlliilnmfaaaGreatDoor.RF.drawn_below hd; clear hd; replace BKb2 := lB BKb2 hb; replace BKb5 := lB BKb5 hb; replace BKb7 := lB BKb7 hb; replace HB := lS HB hb; clear hb; have hz60_0 := cel BKb5 0 rfl; have hf60_ := fz BKb5) | ((with_reducible refine gate_store (p := 61) rfl ?_); refine store_event rfl rfl (w1 := ?w14_n5) ?w14_r5 ?_; (case w14_r5 => (have hz := cel BKb7 5 rfl; have hf := fz BKb7; go_simp; rfl)); generalize hW : World.setCell _ ⟨b7, 5, none⟩ _ = w15_; replace BKb2 := fS1 hW BKb2 Nb2b7; replace BKb5 := fS1 hW BKb5 Nb5b7; replace BKb7 := pS1 (cs' := #[.int .i64 K, .int .i64 d, .int .i64 0, .slice none 0 0, .string (⟨#[]⟩ : ByteArray), .string r1]) hW BKb7 rfl; replace HB := sS1 hW HB GEb7; clear hW; obtain ⟨hz62_0, hz62_1, hz62_2, hz62_3, hz62_4, hz62_5⟩ := cS6 BKb7; have hf62_ := fz BKb7))
 have h := HH.out
 clear HH
 cases ok
 case false =>
  simp only [Bool.false_eq_true, if_false, Option.some.injEq, Prod.mk.injEq] at h
  obtain ⟨rfl, rfl, rfl, rfl, rfl, rfl, rfl⟩ := h
  go_wp2_with (first | ((with_reducible refine gate_callee (f := 33) rfl ?_); refine goM (some 63) Tryz.func33 #[.agg #[.int .i64 K, .int .i64 d, .int .i64 (0 : Int), .slice none 0 0, .string (⟨#[]⟩ : ByteArray), .string r1]] ?_; refine (impl_CallOK.calls k K d (0 : Int) none 0 ([] : List Int) (⟨#[]⟩ : ByteArray) r1 _ _ (Kd.R_reads' (Kd.R_nil (Kd.int .i64) 3 _ w.heap.size (fun _ => True))).2.2 (Nat.le_refl 0) HXo.out).mono ?_; rintro e w16_ ⟨rfl, hb⟩; refine ⟨_, rfl, ?_⟩; replace BKb2 := lB BKb2 hb; replace BKb5 := lB BKb5 hb; replace BKb7 := lB BKb7 hb; replace HB := lS HB hb; clear hb) | ((with_reducible refine gate_store (p := 2) rfl ?_); refine store_event rfl rfl (w1 := ?w17_n6) ?w17_r6 ?_; (case w17_r6 => (obtain ⟨hz0, hz1, hz2, hz3, hz4, hz5⟩ := cS6 BKb2; have hf := fz BKb2; go_simp; rfl)); generalize hW : World.setCell _ ⟨b2, 5, none⟩ _ = w18_; replace BKb5 := fS6 hW BKb5 Nb5b2; replace BKb7 := fS6 hW BKb7 Nb7b2; replace BKb2 := pS6 hW BKb2; replace HB := sS6 hW HB GEb2; clear hW))
  refine bodyPost_ret (results_ct rfl _ _ b2 24 #[.int .i64 0, .int .i64 0, .int .i64 0, .slice none 0 0, .string (⟨#[]⟩ : ByteArray), .string (⟨#[]⟩ : ByteArray)] (0, 0) _ rfl BKb2.out Tryz.underlying24 rfl (by kernel_rfl)) rfl ?_
  exact ⟨_, rfl, Kd.R_nil _ _ _ _ _, HB.out⟩
 case true =>
  rw [if_pos rfl] at h
  obtain ⟨ct, e12, h⟩ := Option.bind_eq_some_iff.1 h
  have HXt := Aside0.mk e12
  clear e12
  by_cases hct : ct.toList = t.toList
  ·rw [if_pos hct] at h
   have t1 : (ct.toList != t.toList) = false := by rw [hct]; simp
   have t2 : (ct.toList == t.toList) = true := by rw [hct]; simp
   clear hct
   simp only [Option.some.injEq, Prod.mk.injEq] at h
   obtain ⟨rfl, rfl, rfl, rfl, rfl, rfl, rfl⟩ := h
   go_wp2_with (first | ((with_reducible refine gate_callee (f := 33) rfl ?_); refine goM (some 63) Tryz.func33 #[.agg #[.int .i64 K, .int .i64 d, .int .i64 (0 : Int), .slice none 0 0, .string (⟨#[]⟩ : ByteArray), .string r1]] ?_; refine (impl_CallOK.calls k K d (0 : Int) none 0 ([] : List Int) (⟨#[]⟩ : ByteArray) r1 _ _ (Kd.R_reads' (Kd.R_nil (Kd.int .i64) 3 _ w.heap.size (fun _ => True))).2.2 (Nat.le_refl 0) HXo.out).mono ?_; rintro e w16_ ⟨rfl, hb⟩; refine ⟨_, rfl, ?_⟩; replace BKb2 := lB BKb2 hb; replace BKb5 := lB BKb5 hb; replace BKb7 := lB BKb7 hb; replace HB := lS HB hb; clear hb; obtain ⟨hz66_0, hz66_1, hz66_2, hz66_3, hz66_4, hz66_5⟩ := cS6 BKb7; have hf66_ := fz BKb7) | ((with_reducible refine gate_dst (N := 67) rfl ?_); (try (refine gate_guard (by rfl) ?_; dsimp only)); (with_reducible refine gate_callee (f := 34) rfl ?_); refine goM (some 67) Tryz.func34 #[.agg #[.int .i64 K, .int .i64 d, .int .i64 (0 : Int), .slice none 0 0, .string (⟨#[]⟩ : ByteArray), .string r1]] ?_; refine (impl_callText.calls k K d (0 : Int) none 0 ([] : List Int) (⟨#[]⟩ : ByteArray) r1 ct _ (HG.out.below HB.out) (Kd.R_reads' (Kd.R_nil (Kd.int .i64) 3 _ w.heap.size (fun _ => True))).2.2 (Nat.le_refl 0) HXt.out).mono ?_; rintro e w17_ ⟨rfl, hb⟩; refine ⟨_, rfl, ?_⟩; replace BKb2 := lB BKb2 hb; replace BKb5 := lB BKb5 hb; replace BKb7 := lB BKb7 hb; replace HB := lS HB hb; clear hb; obtain ⟨hz72_0, hz72_1, hz72_2, hz72_3, hz72_4, hz72_5⟩ := cS6 BKb7; have hf72_ := fz BKb7) | ((with_reducible refine gate_store (p := 2) rfl ?_); refine store_event rfl rfl (w1 := ?w18_n7) ?w18_r7 ?_; (case w18_r7 => (obtain ⟨hz0, hz1, hz2, hz3, hz4, hz5⟩ := cS6 BKb2; have hf := fz BKb2; go_simp; rfl)); generalize hW : World.setCell _ ⟨b2, 5, none⟩ _ = w19_; replace BKb5 := fS6 hW BKb5 Nb5b2; replace BKb7 := fS6 hW BKb7 Nb7b2; replace BKb2 := pS6 hW BKb2; replace HB := sS6 hW HB GEb2; clear hW))
   refine bodyPost_ret (results_ct rfl _ _ b2 24 #[.int .i64 K, .int .i64 d, .int .i64 (0 : Int), .slice none 0 0, .string (⟨#[]⟩ : ByteArray), .string r1] (0, 0) _ rfl BKb2.out Tryz.underlying24 rfl (by kernel_rfl)) rfl ?_
   exact ⟨_, rfl, Kd.R_nil _ _ _ _ _, HB.out⟩
  ·rw [if_neg hct] at h
   have t1 : (ct.toList != t.toList) = true := by simpa using hct
   have t2 : (ct.toList == t.toList) = false := by simpa using hct
   clear hct
   simp only [Option.some.injEq, Prod.mk.injEq] at h
   obtain ⟨rfl, rfl, rfl, rfl, rfl, rfl, rfl⟩ := h
   go_wp2_with (first | ((with_reducible refine gate_callee (f := 33) rfl ?_); refine goM (some 63) Tryz.func33 #[.agg #[.int .i64 K, .int .i64 d, .int .i64 (0 : Int), .slice none 0 0, .string (⟨#[]⟩ : ByteArray), .string r1]] ?_; refine (impl_CallOK.calls k K d (0 : Int) none 0 ([] : List Int) (⟨#[]⟩ : ByteArray) r1 _ _ (Kd.R_reads' (Kd.R_nil (Kd.int .i64) 3 _ w.heap.size (fun _ => True))).2.2 (Nat.le_refl 0) HXo.out).mono ?_; rintro e w16_ ⟨rfl, hb⟩; refine ⟨_, rfl, ?_⟩; replace BKb2 := lB BKb2 hb; replace BKb5 := lB BKb5 hb; replace BKb7 := lB BKb7 hb; replace HB := lS HB hb; clear hb; obtain ⟨hz66_0, hz66_1, hz66_2, hz66_3, hz66_4, hz66_5⟩ := cS6 BKb7; have hf66_ := fz BKb7) | ((with_reducible refine gate_dst (N := 67) rfl ?_); (try (refine gate_guard (by rfl) ?_; dsimp only)); (with_reducible refine gate_callee (f := 34) rfl ?_); refine goM (some 67) Tryz.func34 #[.agg #[.int .i64 K, .int .i64 d, .int .i64 (0 : Int), .slice none 0 0, .string (⟨#[]⟩ : ByteArray), .string r1]] ?_; refine (impl_callText.calls k K d (0 : Int) none 0 ([] : List Int) (⟨#[]⟩ : ByteArray) r1 ct _ (HG.out.below HB.out) (Kd.R_reads' (Kd.R_nil (Kd.int .i64) 3 _ w.heap.size (fun _ => True))).2.2 (Nat.le_refl 0) HXt.out).mono ?_; rintro e w17_ ⟨rfl, hb⟩; refine ⟨_, rfl, ?_⟩; replace BKb2 := lB BKb2 hb; replace BKb5 := lB BKb5 hb; replace BKb7 := lB BKb7 hb; replace HB := lS HB hb; clear hb) | ((with_reducible refine gate_store (p := 2) rfl ?_); refine store_event rfl rfl (w1 := ?w18_n8) ?w18_r8 ?_; (case w18_r8 => (obtain ⟨hz0, hz1, hz2, hz3, hz4, hz5⟩ := cS6 BKb2; have hf := fz BKb2; go_simp; rfl)); generalize hW : World.setCell _ ⟨b2, 5, none⟩ _ = w19_; replace BKb5 := fS6 hW BKb5 Nb5b2; replace BKb7 := fS6 hW BKb7 Nb7b2; replace BKb2 := pS6 hW BKb2; replace HB := sS6 hW HB GEb2; clear hW))
   refine bodyPost_ret (results_ct rfl _ _ b2 24 #[.int .i64 0, .int .i64 0, .int .i64 0, .slice none 0 0, .string (⟨#[]⟩ : ByteArray), .string (⟨#[]⟩ : ByteArray)] (0, 0) _ rfl BKb2.out Tryz.underlying24 rfl (by kernel_rfl)) rfl ?_
   exact ⟨_, rfl, Kd.R_nil _ _ _ _ _, HB.out⟩
set_option maxHeartbeats 4000000 in
set_option maxRecDepth 100000 in
theorem rc_fftf (k : Nat) (t : ByteArray) (K : Int) (a0 r0 : ByteArray) (x0 : Bool) (v1 v2 v3 : Int) (v4 : List Int) (v5 v6 : ByteArray) (v7 : Bool) (w : World) (gw : GW w) (h0 : strings_Cut.f t sp = some (a0, r0, x0)) (hK : slices_Index_string_string.f k W10 a0 = some K) (hge : ¬ K < 1)
  (hp : impl_hasPath.f K = some false) (hn : impl_hasName.f K = some false) (hc : impl_hasConfig.f K = some true) (hx : impl_hasText.f K = some false) (h : tailI k t K r0 false false true false = some (v1, v2, v3, v4, v5, v6, v7)) :
  Calls Tryz.prog 11 #[.string t] w fun e w' => ∃ v_ : Value, e = .returned (.tuple #[.agg #[.int .i64 v1, .int .i64 v2, .int .i64 v3, v_, .string v5, .string v6], .bool v7]) ∧ Kd.R (Kd.int .i64) 3 w' w.heap.size (fun _ => True) v_ v4 ∧ Below w.heap.size w w' := by
 have hu24 := Tryz.underlying24
 have eg := enters_of Tryz.func26 (by kernel_rfl) rfl
 have HG := Aside0.mk gw
 have HB := Aside0.mk (Below.refl w.heap.size w)
 have HX0 := Aside0.mk h0
 have HXK := Aside0.mk hK
 have HP := Aside0.mk hp
 have HN := Aside0.mk hn
 have HC := Aside0.mk hc
 have HT := Aside0.mk hx
 have d1 : decide (K < 1) = false := decide_eq_false hge
 clear gw h0 hK hp hn hc hx hge
 unfold tailI at h
 obtain ⟨⟨a1, r1, x1⟩, e1, h⟩ := Option.bind_eq_some_iff.1 h
 obtain ⟨⟨d, bd⟩, e2, h⟩ := Option.bind_eq_some_iff.1 h
 have HX1 := Aside0.mk e1
 have HXd := Aside0.mk e2
 clear e1 e2
 obtain ⟨⟨y1, y2⟩, e3, h⟩ := Option.bind_eq_some_iff.1 h
 rw [if_neg (by decide)] at e3
 simp only [Option.some.injEq, Prod.mk.injEq] at e3
 obtain ⟨rfl, rfl⟩ := e3
 obtain ⟨⟨z1, z2⟩, e6, h⟩ := Option.bind_eq_some_iff.1 h
 rw [if_neg (by decide)] at e6
 simp only [Option.some.injEq, Prod.mk.injEq] at e6
 obtain ⟨rfl, rfl⟩ := e6
 obtain ⟨⟨u1, u2⟩, e8, h⟩ := Option.bind_eq_some_iff.1 h
 rw [if_pos rfl] at e8
 obtain ⟨⟨a4, r4, x4⟩, e9, e8⟩ := Option.bind_eq_some_iff.1 e8
 obtain ⟨⟨g, bg⟩, e10, e8⟩ := Option.bind_eq_some_iff.1 e8
 simp only [Option.some.injEq, Prod.mk.injEq] at e8
 obtain ⟨rfl, rfl⟩ := e8
 have HX4 := Aside0.mk e9
 have HXg := Aside0.mk e10
 clear e9 e10
 obtain ⟨ok, e11, h⟩ := Option.bind_eq_some_iff.1 h
 simp only [Bool.false_eq_true, if_false] at e11 h
 have HXo := Aside0.mk e11
 clear e11
 have HH := Aside0.mk h
 clear h
 go_enter Tryz.func11, Tryz.ntmps11
 go_upto_region 15 with (first | ((with_reducible refine gate_dst (N := 2) rfl ?_); refine box_event ?hg (N := 2) ?hd (cs := #[.int .i64 0, .int .i64 0, .int .i64 0, .slice none 0 0, .string (⟨#[]⟩ : ByteArray), .string (⟨#[]⟩ : ByteArray)]) (t := 24) ?hr ?_; (case hd => rfl); (case hg => rfl); (case hr => first | (go_simp; done) | (go_simp; rfl)); intro b2 hg w1_ hbox hb; have GEb2 := gE hg HB; replace HB := lS HB hb; have BKb2 := Aside0.mk hbox; clear hb hbox hg) | ((with_reducible refine gate_callee (f := 23) rfl ?_); refine goM (some 11) Tryz.func23 #[.string t, .string sp] ?_; refine (strings_Cut.calls t sp a0 r0 x0 _ (HG.out.below HB.out) HX0.out).mono ?_; rintro e w2_ ⟨rfl, hb⟩; refine ⟨_, rfl, ?_⟩; replace BKb2 := lB BKb2 hb; replace HB := lS HB hb; clear hb) | ((with_reducible refine gate_dst (N := 5) rfl ?_); refine box_event ?hg (N := 5) ?hd (cs := #[.string (⟨#[]⟩ : ByteArray)]) (t := 9) ?hr ?_; (case hd => rfl); (case hg => rfl); (case hr => first | (go_simp; done) | (go_simp; rfl)); intro b5 hg w3_ hbox hb; have Nb2b5 := nL hg BKb2; have Nb5b2 := nG hg BKb2; have GEb5 := gE hg HB; replace BKb2 := lB BKb2 hb; replace HB := lS HB hb; have BKb5 := Aside0.mk hbox; clear hb hbox hg) | ((with_reducible refine gate_store (p := 5) rfl ?_); refine store_event rfl rfl (w1 := ?w4_n9) ?w4_r9 ?_; (case w4_r9 => (have hz := cel BKb5 0 rfl; have hf := fz BKb5; go_simp; rfl)); generalize hW : World.setCell _ ⟨b5, 0, none⟩ _ = w5_; replace BKb2 := fS1 hW BKb2 Nb2b5; replace BKb5 := pS1 (cs' := #[.string r0]) hW BKb5 rfl; replace HB := sS1 hW HB GEb5; clear hW) | ((with_reducible refine gate_callee (f := 25) rfl ?_); refine goM (some 15) Tryz.func25 #[] ?_; refine (impl_callWords.calls W10 _ W10_is).mono ?_; rintro e w6_ ⟨vw_, rfl, ho0, hb⟩; refine ⟨_, rfl, ?_⟩; have nw_ := Aside0.mk (Kd.R_lower ho0 (below_size HB.out)); clear ho0; replace BKb2 := lB BKb2 hb; replace BKb5 := lB BKb5 hb; replace HB := lS HB hb; clear hb; have HW := nw_; clear nw_; obtain ⟨Aw, cw, ew⟩ := Kd.R_slice HW.out; subst ew) | ((with_reducible refine gate_callee (f := 24) rfl ?_); refine goM (some 17) Tryz.func24 #[.slice Aw W10.length cw, .string a0] ?_; refine (slices_Index_string_string.calls k _ _ W10 a0 K _ (Kd.R_reads' HW.out).2.2 (Kd.R_reads' HW.out).2.1 HXK.out).mono ?_; rintro e w' ⟨rfl, hd⟩; refine ⟨_, rfl, ?_⟩; have hb := Go.Proofs.YtfjnlliilnmfaaaGreatDoor.RF.drawn_below hd; clear hd; replace BKb2 := lB BKb2 hb; replace BKb5 := lB BKb5 hb; replace HW := lR HW hb; replace HB := lS HB hb; clear hb) | ((with_reducible refine gate_dst (N := 7) rfl ?_); refine box_event ?hg (N := 7) ?hd (cs := #[.int .i64 0, .int .i64 0, .int .i64 0, .slice none 0 0, .string (⟨#[]⟩ : ByteArray), .string (⟨#[]⟩ : ByteArray)]) (t := 24) ?hr ?_; (case hd => rfl); (case hg => rfl); (case hr => first | (go_simp; done) | (go_simp; rfl)); intro b7 hg w7_ hbox hb; have Nb2b7 := nL hg BKb2; have Nb7b2 := nG hg BKb2; have Nb5b7 := nL hg BKb5; have Nb7b5 := nG hg BKb5; have GEb7 := gE hg HB; replace BKb2 := lB BKb2 hb; replace BKb5 := lB BKb5 hb; replace HB := lS HB hb; have BKb7 := Aside0.mk hbox; clear hb hbox hg) | ((with_reducible refine gate_store (p := 7) rfl ?_); refine store_event rfl rfl (w1 := ?w8_n9) ?w8_r9 ?_; (case w8_r9 => (obtain ⟨hz0, hz1, hz2, hz3, hz4, hz5⟩ := cS6 BKb7; have hf := fz BKb7; go_simp; rfl)); generalize hW : World.setCell _ ⟨b7, 5, none⟩ _ = w9_; replace BKb2 := fS6 hW BKb2 Nb2b7; replace BKb5 := fS6 hW BKb5 Nb5b7; replace BKb7 := pS6 hW BKb7; replace HB := sS6 hW HB GEb7; clear hW; obtain ⟨hz20_0, hz20_1, hz20_2, hz20_3, hz20_4, hz20_5⟩ := cS6 BKb7; have hf20_ := fz BKb7) | ((with_reducible refine gate_dst (N := 26) rfl ?_); refine goesV_ (p := 25) (some 26) rfl rfl Tryz.func26 (by kernel_rfl) rfl #[.pointer (some ⟨b5, 0, none⟩)] rfl rfl ?_; refine (next_calls (HG.out.below HB.out) HX1.out BKb5.out).mono ?_; rintro e w10_ ⟨rfl, h5, hg⟩; refine ⟨_, rfl, ?_⟩; replace BKb2 := lG BKb2 hg Nb2b5; replace BKb7 := lG BKb7 hg Nb7b5; replace BKb5 := Aside0.mk h5; replace HB := gS HB hg GEb5; clear h5 hg) | ((with_reducible refine gate_callee (f := 27) rfl ?_); refine goM (some 27) Tryz.func27 #[.string a1] ?_; refine (impl_number.calls a1 d bd _ (HG.out.below HB.out) HXd.out).mono ?_; rintro e w11_ ⟨rfl, hb⟩; refine ⟨_, rfl, ?_⟩; replace BKb2 := lB BKb2 hb; replace BKb5 := lB BKb5 hb; replace BKb7 := lB BKb7 hb; replace HB := lS HB hb; clear hb) | ((with_reducible refine gate_store (p := 30) rfl ?_); refine store_event rfl rfl (w1 := ?w12_n9) ?w12_r9 ?_; (case w12_r9 => (have hz := cel BKb7 1 rfl; have hf := fz BKb7; go_simp; rfl)); generalize hW : World.setCell _ ⟨b7, 1, none⟩ _ = w13_; replace BKb2 := fS1 hW BKb2 Nb2b7; replace BKb5 := fS1 hW BKb5 Nb5b7; replace BKb7 := pS1 (cs' := #[.int .i64 K, .int .i64 d, .int .i64 0, .slice none 0 0, .string (⟨#[]⟩ : ByteArray), .string (⟨#[]⟩ : ByteArray)]) hW BKb7 rfl; replace HB := sS1 hW HB GEb7; clear hW; obtain ⟨hz32_0, hz32_1, hz32_2, hz32_3, hz32_4, hz32_5⟩ := cS6 BKb7; have hf32_ := fz BKb7) | ((with_reducible refine gate_callee (f := 28) rfl ?_); refine goM (some 33) Tryz.func28 #[.int .i64 K] ?_; refine (impl_hasPath.calls K _ _ HP.out).mono ?_; rintro e w' ⟨rfl, hd⟩; refine ⟨_, rfl, ?_⟩; have hb := Go.Proofs.YtfjnlliilnmfaaaGreatDoor.RF.drawn_below hd; clear hd; replace BKb2 := lB BKb2 hb; replace BKb5 := lB BKb5 hb; replace BKb7 := lB BKb7 hb; replace HB := lS HB hb; clear hb; obtain ⟨hz42_0, hz42_1, hz42_2, hz42_3, hz42_4, hz42_5⟩ := cS6 BKb7; have hf42_ := fz BKb7) | ((with_reducible refine gate_callee (f := 30) rfl ?_); refine goM (some 43) Tryz.func30 #[.int .i64 K] ?_; refine (impl_hasName.calls K _ _ HN.out).mono ?_; rintro e w' ⟨rfl, hd⟩; refine ⟨_, rfl, ?_⟩; have hb := Go.Proofs.YtfjnlliilnmfaaaGreatDoor.RF.drawn_below hd; clear hd; replace BKb2 := lB BKb2 hb; replace BKb5 := lB BKb5 hb; replace BKb7 := lB BKb7 hb; replace HB := lS HB hb; clear hb; obtain ⟨hz48_0, hz48_1, hz48_2, hz48_3, hz48_4, hz48_5⟩ := cS6 BKb7; have hf48_ := fz BKb7) | ((with_reducible refine gate_callee (f := 31) rfl ?_); refine goM (some 49) Tryz.func31 #[.int .i64 K] ?_; refine (impl_hasConfig.calls K _ _ HC.out).mono ?_; rintro e w' ⟨rfl, hd⟩; refine ⟨_, rfl, ?_⟩; have hb := Go.Proofs.YtfjnlliilnmfaaaGreatDoor.RF.drawn_below hd; clear hd; replace BKb2 := lB BKb2 hb; replace BKb5 := lB BKb5 hb; replace BKb7 := lB BKb7 hb; replace HB := lS HB hb; clear hb) | ((with_reducible refine gate_dst (N := 52) rfl ?_); refine goesV_ (p := 51) (some 52) rfl rfl Tryz.func26 (by kernel_rfl) rfl #[.pointer (some ⟨b5, 0, none⟩)] rfl rfl ?_; refine (next_calls (HG.out.below HB.out) HX4.out BKb5.out).mono ?_; rintro e w14_ ⟨rfl, h5, hg⟩; refine ⟨_, rfl, ?_⟩; replace BKb2 := lG BKb2 hg Nb2b5; replace BKb7 := lG BKb7 hg Nb7b5; replace BKb5 := Aside0.mk h5; replace HB := gS HB hg GEb5; clear h5 hg) | ((with_reducible refine gate_callee (f := 27) rfl ?_); refine goM (some 53) Tryz.func27 #[.string a4] ?_; refine (impl_number.calls a4 g bg _ (HG.out.below HB.out) HXg.out).mono ?_; rintro e w15_ ⟨rfl, hb⟩; refine ⟨_, rfl, ?_⟩; replace BKb2 := lB BKb2 hb; replace BKb5 := lB BKb5 hb; replace BKb7 := lB BKb7 hb; replace HB := lS HB hb; clear hb) | ((with_reducible refine gate_store (p := 56) rfl ?_); refine store_event rfl rfl (w1 := ?w16_n9) ?w16_r9 ?_; (case w16_r9 => (have hz := cel BKb7 2 rfl; have hf := fz BKb7; go_simp; rfl)); generalize hW : World.setCell _ ⟨b7, 2, none⟩ _ = w17_; replace BKb2 := fS1 hW BKb2 Nb2b7; replace BKb5 := fS1 hW BKb5 Nb5b7; replace BKb7 := pS1 (cs' := #[.int .i64 K, .int .i64 d, .int .i64 g, .slice none 0 0, .string (⟨#[]⟩ : ByteArray), .string (⟨#[]⟩ : ByteArray)]) hW BKb7 rfl; replace HB := sS1 hW HB GEb7; clear hW; obtain ⟨hz58_0, hz58_1, hz58_2, hz58_3, hz58_4, hz58_5⟩ := cS6 BKb7; have hf58_ := fz BKb7) | ((with_reducible refine gate_callee (f := 32) rfl ?_); refine goM (some 59) Tryz.func32 #[.int .i64 K] ?_; refine (impl_hasText.calls K _ _ HT.out).mono ?_; rintro e w' ⟨rfl, hd⟩; refine ⟨_, rfl, ?_⟩; have hb := Go.Proofs.YtfjnlliilnmfaaaGreatDoor.RF.drawn_below hd; clear hd; replace BKb2 := lB BKb2 hb; replace BKb5 := lB BKb5 hb; replace BKb7 := lB BKb7 hb; replace HB := lS HB hb; clear hb; obtain ⟨hz62_0, hz62_1, hz62_2, hz62_3, hz62_4, hz62_5⟩ := cS6 BKb7; have hf62_ := fz BKb7))
 have h := HH.out
 clear HH
 cases ok
 case false =>
  simp only [Bool.false_eq_true, if_false, Option.some.injEq, Prod.mk.injEq] at h
  obtain ⟨rfl, rfl, rfl, rfl, rfl, rfl, rfl⟩ := h
  go_wp2_with (first | ((with_reducible refine gate_callee (f := 33) rfl ?_); refine goM (some 63) Tryz.func33 #[.agg #[.int .i64 K, .int .i64 d, .int .i64 g, .slice none 0 0, .string (⟨#[]⟩ : ByteArray), .string (⟨#[]⟩ : ByteArray)]] ?_; refine (impl_CallOK.calls k K d g none 0 ([] : List Int) (⟨#[]⟩ : ByteArray) (⟨#[]⟩ : ByteArray) _ _ (Kd.R_reads' (Kd.R_nil (Kd.int .i64) 3 _ w.heap.size (fun _ => True))).2.2 (Nat.le_refl 0) HXo.out).mono ?_; rintro e w18_ ⟨rfl, hb⟩; refine ⟨_, rfl, ?_⟩; replace BKb2 := lB BKb2 hb; replace BKb5 := lB BKb5 hb; replace BKb7 := lB BKb7 hb; replace HB := lS HB hb; clear hb) | ((with_reducible refine gate_store (p := 2) rfl ?_); refine store_event rfl rfl (w1 := ?w19_n10) ?w19_r10 ?_; (case w19_r10 => (obtain ⟨hz0, hz1, hz2, hz3, hz4, hz5⟩ := cS6 BKb2; have hf := fz BKb2; go_simp; rfl)); generalize hW : World.setCell _ ⟨b2, 5, none⟩ _ = w20_; replace BKb5 := fS6 hW BKb5 Nb5b2; replace BKb7 := fS6 hW BKb7 Nb7b2; replace BKb2 := pS6 hW BKb2; replace HB := sS6 hW HB GEb2; clear hW))
  refine bodyPost_ret (results_ct rfl _ _ b2 24 #[.int .i64 0, .int .i64 0, .int .i64 0, .slice none 0 0, .string (⟨#[]⟩ : ByteArray), .string (⟨#[]⟩ : ByteArray)] (0, 0) _ rfl BKb2.out Tryz.underlying24 rfl (by kernel_rfl)) rfl ?_
  exact ⟨_, rfl, Kd.R_nil _ _ _ _ _, HB.out⟩
 case true =>
  rw [if_pos rfl] at h
  obtain ⟨ct, e12, h⟩ := Option.bind_eq_some_iff.1 h
  have HXt := Aside0.mk e12
  clear e12
  by_cases hct : ct.toList = t.toList
  ·rw [if_pos hct] at h
   have t1 : (ct.toList != t.toList) = false := by rw [hct]; simp
   have t2 : (ct.toList == t.toList) = true := by rw [hct]; simp
   clear hct
   simp only [Option.some.injEq, Prod.mk.injEq] at h
   obtain ⟨rfl, rfl, rfl, rfl, rfl, rfl, rfl⟩ := h
   go_wp2_with (first | ((with_reducible refine gate_callee (f := 33) rfl ?_); refine goM (some 63) Tryz.func33 #[.agg #[.int .i64 K, .int .i64 d, .int .i64 g, .slice none 0 0, .string (⟨#[]⟩ : ByteArray), .string (⟨#[]⟩ : ByteArray)]] ?_; refine (impl_CallOK.calls k K d g none 0 ([] : List Int) (⟨#[]⟩ : ByteArray) (⟨#[]⟩ : ByteArray) _ _ (Kd.R_reads' (Kd.R_nil (Kd.int .i64) 3 _ w.heap.size (fun _ => True))).2.2 (Nat.le_refl 0) HXo.out).mono ?_; rintro e w18_ ⟨rfl, hb⟩; refine ⟨_, rfl, ?_⟩; replace BKb2 := lB BKb2 hb; replace BKb5 := lB BKb5 hb; replace BKb7 := lB BKb7 hb; replace HB := lS HB hb; clear hb; obtain ⟨hz66_0, hz66_1, hz66_2, hz66_3, hz66_4, hz66_5⟩ := cS6 BKb7; have hf66_ := fz BKb7) | ((with_reducible refine gate_dst (N := 67) rfl ?_); (try (refine gate_guard (by rfl) ?_; dsimp only)); (with_reducible refine gate_callee (f := 34) rfl ?_); refine goM (some 67) Tryz.func34 #[.agg #[.int .i64 K, .int .i64 d, .int .i64 g, .slice none 0 0, .string (⟨#[]⟩ : ByteArray), .string (⟨#[]⟩ : ByteArray)]] ?_; refine (impl_callText.calls k K d g none 0 ([] : List Int) (⟨#[]⟩ : ByteArray) (⟨#[]⟩ : ByteArray) ct _ (HG.out.below HB.out) (Kd.R_reads' (Kd.R_nil (Kd.int .i64) 3 _ w.heap.size (fun _ => True))).2.2 (Nat.le_refl 0) HXt.out).mono ?_; rintro e w19_ ⟨rfl, hb⟩; refine ⟨_, rfl, ?_⟩; replace BKb2 := lB BKb2 hb; replace BKb5 := lB BKb5 hb; replace BKb7 := lB BKb7 hb; replace HB := lS HB hb; clear hb; obtain ⟨hz72_0, hz72_1, hz72_2, hz72_3, hz72_4, hz72_5⟩ := cS6 BKb7; have hf72_ := fz BKb7) | ((with_reducible refine gate_store (p := 2) rfl ?_); refine store_event rfl rfl (w1 := ?w20_n11) ?w20_r11 ?_; (case w20_r11 => (obtain ⟨hz0, hz1, hz2, hz3, hz4, hz5⟩ := cS6 BKb2; have hf := fz BKb2; go_simp; rfl)); generalize hW : World.setCell _ ⟨b2, 5, none⟩ _ = w21_; replace BKb5 := fS6 hW BKb5 Nb5b2; replace BKb7 := fS6 hW BKb7 Nb7b2; replace BKb2 := pS6 hW BKb2; replace HB := sS6 hW HB GEb2; clear hW))
   refine bodyPost_ret (results_ct rfl _ _ b2 24 #[.int .i64 K, .int .i64 d, .int .i64 g, .slice none 0 0, .string (⟨#[]⟩ : ByteArray), .string (⟨#[]⟩ : ByteArray)] (0, 0) _ rfl BKb2.out Tryz.underlying24 rfl (by kernel_rfl)) rfl ?_
   exact ⟨_, rfl, Kd.R_nil _ _ _ _ _, HB.out⟩
  ·rw [if_neg hct] at h
   have t1 : (ct.toList != t.toList) = true := by simpa using hct
   have t2 : (ct.toList == t.toList) = false := by simpa using hct
   clear hct
   simp only [Option.some.injEq, Prod.mk.injEq] at h
   obtain ⟨rfl, rfl, rfl, rfl, rfl, rfl, rfl⟩ := h
   go_wp2_with (first | ((with_reducible refine gate_callee (f := 33) rfl ?_); refine goM (some 63) Tryz.func33 #[.agg #[.int .i64 K, .int .i64 d, .int .i64 g, .slice none 0 0, .string (⟨#[]⟩ : ByteArray), .string (⟨#[]⟩ : ByteArray)]] ?_; refine (impl_CallOK.calls k K d g none 0 ([] : List Int) (⟨#[]⟩ : ByteArray) (⟨#[]⟩ : ByteArray) _ _ (Kd.R_reads' (Kd.R_nil (Kd.int .i64) 3 _ w.heap.size (fun _ => True))).2.2 (Nat.le_refl 0) HXo.out).mono ?_; rintro e w18_ ⟨rfl, hb⟩; refine ⟨_, rfl, ?_⟩; replace BKb2 := lB BKb2 hb; replace BKb5 := lB BKb5 hb; replace BKb7 := lB BKb7 hb; replace HB := lS HB hb; clear hb; obtain ⟨hz66_0, hz66_1, hz66_2, hz66_3, hz66_4, hz66_5⟩ := cS6 BKb7; have hf66_ := fz BKb7) | ((with_reducible refine gate_dst (N := 67) rfl ?_); (try (refine gate_guard (by rfl) ?_; dsimp only)); (with_reducible refine gate_callee (f := 34) rfl ?_); refine goM (some 67) Tryz.func34 #[.agg #[.int .i64 K, .int .i64 d, .int .i64 g, .slice none 0 0, .string (⟨#[]⟩ : ByteArray), .string (⟨#[]⟩ : ByteArray)]] ?_; refine (impl_callText.calls k K d g none 0 ([] : List Int) (⟨#[]⟩ : ByteArray) (⟨#[]⟩ : ByteArray) ct _ (HG.out.below HB.out) (Kd.R_reads' (Kd.R_nil (Kd.int .i64) 3 _ w.heap.size (fun _ => True))).2.2 (Nat.le_refl 0) HXt.out).mono ?_; rintro e w19_ ⟨rfl, hb⟩; refine ⟨_, rfl, ?_⟩; replace BKb2 := lB BKb2 hb; replace BKb5 := lB BKb5 hb; replace BKb7 := lB BKb7 hb; replace HB := lS HB hb; clear hb) | ((with_reducible refine gate_store (p := 2) rfl ?_); refine store_event rfl rfl (w1 := ?w20_n12) ?w20_r12 ?_; (case w20_r12 => (obtain ⟨hz0, hz1, hz2, hz3, hz4, hz5⟩ := cS6 BKb2; have hf := fz BKb2; go_simp; rfl)); generalize hW : World.setCell _ ⟨b2, 5, none⟩ _ = w21_; replace BKb5 := fS6 hW BKb5 Nb5b2; replace BKb7 := fS6 hW BKb7 Nb7b2; replace BKb2 := pS6 hW BKb2; replace HB := sS6 hW HB GEb2; clear hW))
   refine bodyPost_ret (results_ct rfl _ _ b2 24 #[.int .i64 0, .int .i64 0, .int .i64 0, .slice none 0 0, .string (⟨#[]⟩ : ByteArray), .string (⟨#[]⟩ : ByteArray)] (0, 0) _ rfl BKb2.out Tryz.underlying24 rfl (by kernel_rfl)) rfl ?_
   exact ⟨_, rfl, Kd.R_nil _ _ _ _ _, HB.out⟩
set_option maxHeartbeats 4000000 in
set_option maxRecDepth 100000 in
theorem rc_ffff (k : Nat) (t : ByteArray) (K : Int) (a0 r0 : ByteArray) (x0 : Bool) (v1 v2 v3 : Int) (v4 : List Int) (v5 v6 : ByteArray) (v7 : Bool) (w : World) (gw : GW w) (h0 : strings_Cut.f t sp = some (a0, r0, x0)) (hK : slices_Index_string_string.f k W10 a0 = some K) (hge : ¬ K < 1)
  (hp : impl_hasPath.f K = some false) (hn : impl_hasName.f K = some false) (hc : impl_hasConfig.f K = some false) (hx : impl_hasText.f K = some false) (h : tailI k t K r0 false false false false = some (v1, v2, v3, v4, v5, v6, v7)) :
  Calls Tryz.prog 11 #[.string t] w fun e w' => ∃ v_ : Value, e = .returned (.tuple #[.agg #[.int .i64 v1, .int .i64 v2, .int .i64 v3, v_, .string v5, .string v6], .bool v7]) ∧ Kd.R (Kd.int .i64) 3 w' w.heap.size (fun _ => True) v_ v4 ∧ Below w.heap.size w w' := by
 have hu24 := Tryz.underlying24
 have eg := enters_of Tryz.func26 (by kernel_rfl) rfl
 have HG := Aside0.mk gw
 have HB := Aside0.mk (Below.refl w.heap.size w)
 have HX0 := Aside0.mk h0
 have HXK := Aside0.mk hK
 have HP := Aside0.mk hp
 have HN := Aside0.mk hn
 have HC := Aside0.mk hc
 have HT := Aside0.mk hx
 have d1 : decide (K < 1) = false := decide_eq_false hge
 clear gw h0 hK hp hn hc hx hge
 unfold tailI at h
 obtain ⟨⟨a1, r1, x1⟩, e1, h⟩ := Option.bind_eq_some_iff.1 h
 obtain ⟨⟨d, bd⟩, e2, h⟩ := Option.bind_eq_some_iff.1 h
 have HX1 := Aside0.mk e1
 have HXd := Aside0.mk e2
 clear e1 e2
 obtain ⟨⟨y1, y2⟩, e3, h⟩ := Option.bind_eq_some_iff.1 h
 rw [if_neg (by decide)] at e3
 simp only [Option.some.injEq, Prod.mk.injEq] at e3
 obtain ⟨rfl, rfl⟩ := e3
 obtain ⟨⟨z1, z2⟩, e6, h⟩ := Option.bind_eq_some_iff.1 h
 rw [if_neg (by decide)] at e6
 simp only [Option.some.injEq, Prod.mk.injEq] at e6
 obtain ⟨rfl, rfl⟩ := e6
 obtain ⟨⟨u1, u2⟩, e8, h⟩ := Option.bind_eq_some_iff.1 h
 rw [if_neg (by decide)] at e8
 simp only [Option.some.injEq, Prod.mk.injEq] at e8
 obtain ⟨rfl, rfl⟩ := e8
 obtain ⟨ok, e11, h⟩ := Option.bind_eq_some_iff.1 h
 simp only [Bool.false_eq_true, if_false] at e11 h
 have HXo := Aside0.mk e11
 clear e11
 have HH := Aside0.mk h
 clear h
 go_enter Tryz.func11, Tryz.ntmps11
 go_upto_region 15 with (first | ((with_reducible refine gate_dst (N := 2) rfl ?_); refine box_event ?hg (N := 2) ?hd (cs := #[.int .i64 0, .int .i64 0, .int .i64 0, .slice none 0 0, .string (⟨#[]⟩ : ByteArray), .string (⟨#[]⟩ : ByteArray)]) (t := 24) ?hr ?_; (case hd => rfl); (case hg => rfl); (case hr => first | (go_simp; done) | (go_simp; rfl)); intro b2 hg w1_ hbox hb; have GEb2 := gE hg HB; replace HB := lS HB hb; have BKb2 := Aside0.mk hbox; clear hb hbox hg) | ((with_reducible refine gate_callee (f := 23) rfl ?_); refine goM (some 11) Tryz.func23 #[.string t, .string sp] ?_; refine (strings_Cut.calls t sp a0 r0 x0 _ (HG.out.below HB.out) HX0.out).mono ?_; rintro e w2_ ⟨rfl, hb⟩; refine ⟨_, rfl, ?_⟩; replace BKb2 := lB BKb2 hb; replace HB := lS HB hb; clear hb) | ((with_reducible refine gate_dst (N := 5) rfl ?_); refine box_event ?hg (N := 5) ?hd (cs := #[.string (⟨#[]⟩ : ByteArray)]) (t := 9) ?hr ?_; (case hd => rfl); (case hg => rfl); (case hr => first | (go_simp; done) | (go_simp; rfl)); intro b5 hg w3_ hbox hb; have Nb2b5 := nL hg BKb2; have Nb5b2 := nG hg BKb2; have GEb5 := gE hg HB; replace BKb2 := lB BKb2 hb; replace HB := lS HB hb; have BKb5 := Aside0.mk hbox; clear hb hbox hg) | ((with_reducible refine gate_store (p := 5) rfl ?_); refine store_event rfl rfl (w1 := ?w4_n13) ?w4_r13 ?_; (case w4_r13 => (have hz := cel BKb5 0 rfl; have hf := fz BKb5; go_simp; rfl)); generalize hW : World.setCell _ ⟨b5, 0, none⟩ _ = w5_; replace BKb2 := fS1 hW BKb2 Nb2b5; replace BKb5 := pS1 (cs' := #[.string r0]) hW BKb5 rfl; replace HB := sS1 hW HB GEb5; clear hW) | ((with_reducible refine gate_callee (f := 25) rfl ?_); refine goM (some 15) Tryz.func25 #[] ?_; refine (impl_callWords.calls W10 _ W10_is).mono ?_; rintro e w6_ ⟨vw_, rfl, ho0, hb⟩; refine ⟨_, rfl, ?_⟩; have nw_ := Aside0.mk (Kd.R_lower ho0 (below_size HB.out)); clear ho0; replace BKb2 := lB BKb2 hb; replace BKb5 := lB BKb5 hb; replace HB := lS HB hb; clear hb; have HW := nw_; clear nw_; obtain ⟨Aw, cw, ew⟩ := Kd.R_slice HW.out; subst ew) | ((with_reducible refine gate_callee (f := 24) rfl ?_); refine goM (some 17) Tryz.func24 #[.slice Aw W10.length cw, .string a0] ?_; refine (slices_Index_string_string.calls k _ _ W10 a0 K _ (Kd.R_reads' HW.out).2.2 (Kd.R_reads' HW.out).2.1 HXK.out).mono ?_; rintro e w' ⟨rfl, hd⟩; refine ⟨_, rfl, ?_⟩; have hb := Go.Proofs.YtfjnlliilnmfaaaGreatDoor.RF.drawn_below hd; clear hd; replace BKb2 := lB BKb2 hb; replace BKb5 := lB BKb5 hb; replace HW := lR HW hb; replace HB := lS HB hb; clear hb) | ((with_reducible refine gate_dst (N := 7) rfl ?_); refine box_event ?hg (N := 7) ?hd (cs := #[.int .i64 0, .int .i64 0, .int .i64 0, .slice none 0 0, .string (⟨#[]⟩ : ByteArray), .string (⟨#[]⟩ : ByteArray)]) (t := 24) ?hr ?_; (case hd => rfl); (case hg => rfl); (case hr => first | (go_simp; done) | (go_simp; rfl)); intro b7 hg w7_ hbox hb; have Nb2b7 := nL hg BKb2; have Nb7b2 := nG hg BKb2; have Nb5b7 := nL hg BKb5; have Nb7b5 := nG hg BKb5; have GEb7 := gE hg HB; replace BKb2 := lB BKb2 hb; replace BKb5 := lB BKb5 hb; replace HB := lS HB hb; have BKb7 := Aside0.mk hbox; clear hb hbox hg) | ((with_reducible refine gate_store (p := 7) rfl ?_); refine store_event rfl rfl (w1 := ?w8_n13) ?w8_r13 ?_; (case w8_r13 => (obtain ⟨hz0, hz1, hz2, hz3, hz4, hz5⟩ := cS6 BKb7; have hf := fz BKb7; go_simp; rfl)); generalize hW : World.setCell _ ⟨b7, 5, none⟩ _ = w9_; replace BKb2 := fS6 hW BKb2 Nb2b7; replace BKb5 := fS6 hW BKb5 Nb5b7; replace BKb7 := pS6 hW BKb7; replace HB := sS6 hW HB GEb7; clear hW; obtain ⟨hz20_0, hz20_1, hz20_2, hz20_3, hz20_4, hz20_5⟩ := cS6 BKb7; have hf20_ := fz BKb7) | ((with_reducible refine gate_dst (N := 26) rfl ?_); refine goesV_ (p := 25) (some 26) rfl rfl Tryz.func26 (by kernel_rfl) rfl #[.pointer (some ⟨b5, 0, none⟩)] rfl rfl ?_; refine (next_calls (HG.out.below HB.out) HX1.out BKb5.out).mono ?_; rintro e w10_ ⟨rfl, h5, hg⟩; refine ⟨_, rfl, ?_⟩; replace BKb2 := lG BKb2 hg Nb2b5; replace BKb7 := lG BKb7 hg Nb7b5; replace BKb5 := Aside0.mk h5; replace HB := gS HB hg GEb5; clear h5 hg) | ((with_reducible refine gate_callee (f := 27) rfl ?_); refine goM (some 27) Tryz.func27 #[.string a1] ?_; refine (impl_number.calls a1 d bd _ (HG.out.below HB.out) HXd.out).mono ?_; rintro e w11_ ⟨rfl, hb⟩; refine ⟨_, rfl, ?_⟩; replace BKb2 := lB BKb2 hb; replace BKb5 := lB BKb5 hb; replace BKb7 := lB BKb7 hb; replace HB := lS HB hb; clear hb) | ((with_reducible refine gate_store (p := 30) rfl ?_); refine store_event rfl rfl (w1 := ?w12_n13) ?w12_r13 ?_; (case w12_r13 => (have hz := cel BKb7 1 rfl; have hf := fz BKb7; go_simp; rfl)); generalize hW : World.setCell _ ⟨b7, 1, none⟩ _ = w13_; replace BKb2 := fS1 hW BKb2 Nb2b7; replace BKb5 := fS1 hW BKb5 Nb5b7; replace BKb7 := pS1 (cs' := #[.int .i64 K, .int .i64 d, .int .i64 0, .slice none 0 0, .string (⟨#[]⟩ : ByteArray), .string (⟨#[]⟩ : ByteArray)]) hW BKb7 rfl; replace HB := sS1 hW HB GEb7; clear hW; obtain ⟨hz32_0, hz32_1, hz32_2, hz32_3, hz32_4, hz32_5⟩ := cS6 BKb7; have hf32_ := fz BKb7) | ((with_reducible refine gate_callee (f := 28) rfl ?_); refine goM (some 33) Tryz.func28 #[.int .i64 K] ?_; refine (impl_hasPath.calls K _ _ HP.out).mono ?_; rintro e w' ⟨rfl, hd⟩; refine ⟨_, rfl, ?_⟩; have hb := Go.Proofs.YtfjnlliilnmfaaaGreatDoor.RF.drawn_below hd; clear hd; replace BKb2 := lB BKb2 hb; replace BKb5 := lB BKb5 hb; replace BKb7 := lB BKb7 hb; replace HB := lS HB hb; clear hb; obtain ⟨hz42_0, hz42_1, hz42_2, hz42_3, hz42_4, hz42_5⟩ := cS6 BKb7; have hf42_ := fz BKb7) | ((with_reducible refine gate_callee (f := 30) rfl ?_); refine goM (some 43) Tryz.func30 #[.int .i64 K] ?_; refine (impl_hasName.calls K _ _ HN.out).mono ?_; rintro e w' ⟨rfl, hd⟩; refine ⟨_, rfl, ?_⟩; have hb := Go.Proofs.YtfjnlliilnmfaaaGreatDoor.RF.drawn_below hd; clear hd; replace BKb2 := lB BKb2 hb; replace BKb5 := lB BKb5 hb; replace BKb7 := lB BKb7 hb; replace HB := lS HB hb; clear hb; obtain ⟨hz48_0, hz48_1, hz48_2, hz48_3, hz48_4, hz48_5⟩ := cS6 BKb7; have hf48_ := fz BKb7) | ((with_reducible refine gate_callee (f := 31) rfl ?_); refine goM (some 49) Tryz.func31 #[.int .i64 K] ?_; refine (impl_hasConfig.calls K _ _ HC.out).mono ?_; rintro e w' ⟨rfl, hd⟩; refine ⟨_, rfl, ?_⟩; have hb := Go.Proofs.YtfjnlliilnmfaaaGreatDoor.RF.drawn_below hd; clear hd; replace BKb2 := lB BKb2 hb; replace BKb5 := lB BKb5 hb; replace BKb7 := lB BKb7 hb; replace HB := lS HB hb; clear hb; obtain ⟨hz58_0, hz58_1, hz58_2, hz58_3, hz58_4, hz58_5⟩ := cS6 BKb7; have hf58_ := fz BKb7) | ((with_reducible refine gate_callee (f := 32) rfl ?_); refine goM (some 59) Tryz.func32 #[.int .i64 K] ?_; refine (impl_hasText.calls K _ _ HT.out).mono ?_; rintro e w' ⟨rfl, hd⟩; refine ⟨_, rfl, ?_⟩; have hb := Go.Proofs.YtfjnlliilnmfaaaGreatDoor.RF.drawn_below hd; clear hd; replace BKb2 := lB BKb2 hb; replace BKb5 := lB BKb5 hb; replace BKb7 := lB BKb7 hb; replace HB := lS HB hb; clear hb; obtain ⟨hz62_0, hz62_1, hz62_2, hz62_3, hz62_4, hz62_5⟩ := cS6 BKb7; have hf62_ := fz BKb7))
 have h := HH.out
 clear HH
 cases ok
 case false =>
  simp only [Bool.false_eq_true, if_false, Option.some.injEq, Prod.mk.injEq] at h
  obtain ⟨rfl, rfl, rfl, rfl, rfl, rfl, rfl⟩ := h
  go_wp2_with (first | ((with_reducible refine gate_callee (f := 33) rfl ?_); refine goM (some 63) Tryz.func33 #[.agg #[.int .i64 K, .int .i64 d, .int .i64 (0 : Int), .slice none 0 0, .string (⟨#[]⟩ : ByteArray), .string (⟨#[]⟩ : ByteArray)]] ?_; refine (impl_CallOK.calls k K d (0 : Int) none 0 ([] : List Int) (⟨#[]⟩ : ByteArray) (⟨#[]⟩ : ByteArray) _ _ (Kd.R_reads' (Kd.R_nil (Kd.int .i64) 3 _ w.heap.size (fun _ => True))).2.2 (Nat.le_refl 0) HXo.out).mono ?_; rintro e w14_ ⟨rfl, hb⟩; refine ⟨_, rfl, ?_⟩; replace BKb2 := lB BKb2 hb; replace BKb5 := lB BKb5 hb; replace BKb7 := lB BKb7 hb; replace HB := lS HB hb; clear hb) | ((with_reducible refine gate_store (p := 2) rfl ?_); refine store_event rfl rfl (w1 := ?w15_n14) ?w15_r14 ?_; (case w15_r14 => (obtain ⟨hz0, hz1, hz2, hz3, hz4, hz5⟩ := cS6 BKb2; have hf := fz BKb2; go_simp; rfl)); generalize hW : World.setCell _ ⟨b2, 5, none⟩ _ = w16_; replace BKb5 := fS6 hW BKb5 Nb5b2; replace BKb7 := fS6 hW BKb7 Nb7b2; replace BKb2 := pS6 hW BKb2; replace HB := sS6 hW HB GEb2; clear hW))
  refine bodyPost_ret (results_ct rfl _ _ b2 24 #[.int .i64 0, .int .i64 0, .int .i64 0, .slice none 0 0, .string (⟨#[]⟩ : ByteArray), .string (⟨#[]⟩ : ByteArray)] (0, 0) _ rfl BKb2.out Tryz.underlying24 rfl (by kernel_rfl)) rfl ?_
  exact ⟨_, rfl, Kd.R_nil _ _ _ _ _, HB.out⟩
 case true =>
  rw [if_pos rfl] at h
  obtain ⟨ct, e12, h⟩ := Option.bind_eq_some_iff.1 h
  have HXt := Aside0.mk e12
  clear e12
  by_cases hct : ct.toList = t.toList
  ·rw [if_pos hct] at h
   have t1 : (ct.toList != t.toList) = false := by rw [hct]; simp
   have t2 : (ct.toList == t.toList) = true := by rw [hct]; simp
   clear hct
   simp only [Option.some.injEq, Prod.mk.injEq] at h
   obtain ⟨rfl, rfl, rfl, rfl, rfl, rfl, rfl⟩ := h
   go_wp2_with (first | ((with_reducible refine gate_callee (f := 33) rfl ?_); refine goM (some 63) Tryz.func33 #[.agg #[.int .i64 K, .int .i64 d, .int .i64 (0 : Int), .slice none 0 0, .string (⟨#[]⟩ : ByteArray), .string (⟨#[]⟩ : ByteArray)]] ?_; refine (impl_CallOK.calls k K d (0 : Int) none 0 ([] : List Int) (⟨#[]⟩ : ByteArray) (⟨#[]⟩ : ByteArray) _ _ (Kd.R_reads' (Kd.R_nil (Kd.int .i64) 3 _ w.heap.size (fun _ => True))).2.2 (Nat.le_refl 0) HXo.out).mono ?_; rintro e w14_ ⟨rfl, hb⟩; refine ⟨_, rfl, ?_⟩; replace BKb2 := lB BKb2 hb; replace BKb5 := lB BKb5 hb; replace BKb7 := lB BKb7 hb; replace HB := lS HB hb; clear hb; obtain ⟨hz66_0, hz66_1, hz66_2, hz66_3, hz66_4, hz66_5⟩ := cS6 BKb7; have hf66_ := fz BKb7) | ((with_reducible refine gate_dst (N := 67) rfl ?_); (try (refine gate_guard (by rfl) ?_; dsimp only)); (with_reducible refine gate_callee (f := 34) rfl ?_); refine goM (some 67) Tryz.func34 #[.agg #[.int .i64 K, .int .i64 d, .int .i64 (0 : Int), .slice none 0 0, .string (⟨#[]⟩ : ByteArray), .string (⟨#[]⟩ : ByteArray)]] ?_; refine (impl_callText.calls k K d (0 : Int) none 0 ([] : List Int) (⟨#[]⟩ : ByteArray) (⟨#[]⟩ : ByteArray) ct _ (HG.out.below HB.out) (Kd.R_reads' (Kd.R_nil (Kd.int .i64) 3 _ w.heap.size (fun _ => True))).2.2 (Nat.le_refl 0) HXt.out).mono ?_; rintro e w15_ ⟨rfl, hb⟩; refine ⟨_, rfl, ?_⟩; replace BKb2 := lB BKb2 hb; replace BKb5 := lB BKb5 hb; replace BKb7 := lB BKb7 hb; replace HB := lS HB hb; clear hb; obtain ⟨hz72_0, hz72_1, hz72_2, hz72_3, hz72_4, hz72_5⟩ := cS6 BKb7; have hf72_ := fz BKb7) | ((with_reducible refine gate_store (p := 2) rfl ?_); refine store_event rfl rfl (w1 := ?w16_n15) ?w16_r15 ?_; (case w16_r15 => (obtain ⟨hz0, hz1, hz2, hz3, hz4, hz5⟩ := cS6 BKb2; have hf := fz BKb2; go_simp; rfl)); generalize hW : World.setCell _ ⟨b2, 5, none⟩ _ = w17_; replace BKb5 := fS6 hW BKb5 Nb5b2; replace BKb7 := fS6 hW BKb7 Nb7b2; replace BKb2 := pS6 hW BKb2; replace HB := sS6 hW HB GEb2; clear hW))
   refine bodyPost_ret (results_ct rfl _ _ b2 24 #[.int .i64 K, .int .i64 d, .int .i64 (0 : Int), .slice none 0 0, .string (⟨#[]⟩ : ByteArray), .string (⟨#[]⟩ : ByteArray)] (0, 0) _ rfl BKb2.out Tryz.underlying24 rfl (by kernel_rfl)) rfl ?_
   exact ⟨_, rfl, Kd.R_nil _ _ _ _ _, HB.out⟩
  ·rw [if_neg hct] at h
   have t1 : (ct.toList != t.toList) = true := by simpa using hct
   have t2 : (ct.toList == t.toList) = false := by simpa using hct
   clear hct
   simp only [Option.some.injEq, Prod.mk.injEq] at h
   obtain ⟨rfl, rfl, rfl, rfl, rfl, rfl, rfl⟩ := h
   go_wp2_with (first | ((with_reducible refine gate_callee (f := 33) rfl ?_); refine goM (some 63) Tryz.func33 #[.agg #[.int .i64 K, .int .i64 d, .int .i64 (0 : Int), .slice none 0 0, .string (⟨#[]⟩ : ByteArray), .string (⟨#[]⟩ : ByteArray)]] ?_; refine (impl_CallOK.calls k K d (0 : Int) none 0 ([] : List Int) (⟨#[]⟩ : ByteArray) (⟨#[]⟩ : ByteArray) _ _ (Kd.R_reads' (Kd.R_nil (Kd.int .i64) 3 _ w.heap.size (fun _ => True))).2.2 (Nat.le_refl 0) HXo.out).mono ?_; rintro e w14_ ⟨rfl, hb⟩; refine ⟨_, rfl, ?_⟩; replace BKb2 := lB BKb2 hb; replace BKb5 := lB BKb5 hb; replace BKb7 := lB BKb7 hb; replace HB := lS HB hb; clear hb; obtain ⟨hz66_0, hz66_1, hz66_2, hz66_3, hz66_4, hz66_5⟩ := cS6 BKb7; have hf66_ := fz BKb7) | ((with_reducible refine gate_dst (N := 67) rfl ?_); (try (refine gate_guard (by rfl) ?_; dsimp only)); (with_reducible refine gate_callee (f := 34) rfl ?_); refine goM (some 67) Tryz.func34 #[.agg #[.int .i64 K, .int .i64 d, .int .i64 (0 : Int), .slice none 0 0, .string (⟨#[]⟩ : ByteArray), .string (⟨#[]⟩ : ByteArray)]] ?_; refine (impl_callText.calls k K d (0 : Int) none 0 ([] : List Int) (⟨#[]⟩ : ByteArray) (⟨#[]⟩ : ByteArray) ct _ (HG.out.below HB.out) (Kd.R_reads' (Kd.R_nil (Kd.int .i64) 3 _ w.heap.size (fun _ => True))).2.2 (Nat.le_refl 0) HXt.out).mono ?_; rintro e w15_ ⟨rfl, hb⟩; refine ⟨_, rfl, ?_⟩; replace BKb2 := lB BKb2 hb; replace BKb5 := lB BKb5 hb; replace BKb7 := lB BKb7 hb; replace HB := lS HB hb; clear hb) | ((with_reducible refine gate_store (p := 2) rfl ?_); refine store_event rfl rfl (w1 := ?w16_n16) ?w16_r16 ?_; (case w16_r16 => (obtain ⟨hz0, hz1, hz2, hz3, hz4, hz5⟩ := cS6 BKb2; have hf := fz BKb2; go_simp; rfl)); generalize hW : World.setCell _ ⟨b2, 5, none⟩ _ = w17_; replace BKb5 := fS6 hW BKb5 Nb5b2; replace BKb7 := fS6 hW BKb7 Nb7b2; replace BKb2 := pS6 hW BKb2; replace HB := sS6 hW HB GEb2; clear hW))
   refine bodyPost_ret (results_ct rfl _ _ b2 24 #[.int .i64 0, .int .i64 0, .int .i64 0, .slice none 0 0, .string (⟨#[]⟩ : ByteArray), .string (⟨#[]⟩ : ByteArray)] (0, 0) _ rfl BKb2.out Tryz.underlying24 rfl (by kernel_rfl)) rfl ?_
   exact ⟨_, rfl, Kd.R_nil _ _ _ _ _, HB.out⟩
set_option maxHeartbeats 4000000 in
set_option maxRecDepth 100000 in
theorem rc_none (k : Nat) (t : ByteArray) (K : Int) (a0 r0 : ByteArray) (x0 : Bool) (w : World) (gw : GW w) (h0 : strings_Cut.f t sp = some (a0, r0, x0)) (hK : slices_Index_string_string.f k W10 a0 = some K) (hlt : K < 1) :
  Calls Tryz.prog 11 #[.string t] w fun e w' => ∃ v_ : Value, e = .returned (.tuple #[.agg #[.int .i64 0, .int .i64 0, .int .i64 0, v_, .string (⟨#[]⟩ : ByteArray), .string (⟨#[]⟩ : ByteArray)], .bool false]) ∧ Kd.R (Kd.int .i64) 3 w' w.heap.size (fun _ => True) v_ [] ∧ Below w.heap.size w w' := by
 have hu24 := Tryz.underlying24
 have HG := Aside0.mk gw
 have HB := Aside0.mk (Below.refl w.heap.size w)
 have HX0 := Aside0.mk h0
 have HXK := Aside0.mk hK
 have d1 : decide (K < 1) = true := decide_eq_true hlt
 clear gw h0 hK hlt
 go_enter Tryz.func11, Tryz.ntmps11
 go_wp2_with (first | ((with_reducible refine gate_dst (N := 2) rfl ?_); refine box_event ?hg (N := 2) ?hd (cs := #[.int .i64 0, .int .i64 0, .int .i64 0, .slice none 0 0, .string (⟨#[]⟩ : ByteArray), .string (⟨#[]⟩ : ByteArray)]) (t := 24) ?hr ?_; (case hd => rfl); (case hg => rfl); (case hr => first | (go_simp; done) | (go_simp; rfl)); intro b2 hg w1_ hbox hb; have GEb2 := gE hg HB; replace HB := lS HB hb; have BKb2 := Aside0.mk hbox; clear hb hbox hg) | ((with_reducible refine gate_callee (f := 23) rfl ?_); refine goM (some 11) Tryz.func23 #[.string t, .string sp] ?_; refine (strings_Cut.calls t sp a0 r0 x0 _ (HG.out.below HB.out) HX0.out).mono ?_; rintro e w2_ ⟨rfl, hb⟩; refine ⟨_, rfl, ?_⟩; replace BKb2 := lB BKb2 hb; replace HB := lS HB hb; clear hb) | ((with_reducible refine gate_dst (N := 5) rfl ?_); refine box_event ?hg (N := 5) ?hd (cs := #[.string (⟨#[]⟩ : ByteArray)]) (t := 9) ?hr ?_; (case hd => rfl); (case hg => rfl); (case hr => first | (go_simp; done) | (go_simp; rfl)); intro b5 hg w3_ hbox hb; have Nb2b5 := nL hg BKb2; have Nb5b2 := nG hg BKb2; have GEb5 := gE hg HB; replace BKb2 := lB BKb2 hb; replace HB := lS HB hb; have BKb5 := Aside0.mk hbox; clear hb hbox hg) | ((with_reducible refine gate_store (p := 5) rfl ?_); refine store_event rfl rfl (w1 := ?w4_n17) ?w4_r17 ?_; (case w4_r17 => (have hz := cel BKb5 0 rfl; have hf := fz BKb5; go_simp; rfl)); generalize hW : World.setCell _ ⟨b5, 0, none⟩ _ = w5_; replace BKb2 := fS1 hW BKb2 Nb2b5; replace BKb5 := pS1 (cs' := #[.string r0]) hW BKb5 rfl; replace HB := sS1 hW HB GEb5; clear hW) | ((with_reducible refine gate_callee (f := 25) rfl ?_); refine goM (some 15) Tryz.func25 #[] ?_; refine (impl_callWords.calls W10 _ W10_is).mono ?_; rintro e w6_ ⟨vw_, rfl, ho0, hb⟩; refine ⟨_, rfl, ?_⟩; have nw_ := Aside0.mk (Kd.R_lower ho0 (below_size HB.out)); clear ho0; replace BKb2 := lB BKb2 hb; replace BKb5 := lB BKb5 hb; replace HB := lS HB hb; clear hb; have HW := nw_; clear nw_; obtain ⟨Aw, cw, ew⟩ := Kd.R_slice HW.out; subst ew) | ((with_reducible refine gate_callee (f := 24) rfl ?_); refine goM (some 17) Tryz.func24 #[.slice Aw W10.length cw, .string a0] ?_; refine (slices_Index_string_string.calls k _ _ W10 a0 K _ (Kd.R_reads' HW.out).2.2 (Kd.R_reads' HW.out).2.1 HXK.out).mono ?_; rintro e w' ⟨rfl, hd⟩; refine ⟨_, rfl, ?_⟩; have hb := Go.Proofs.YtfjnlliilnmfaaaGreatDoor.RF.drawn_below hd; clear hd; replace BKb2 := lB BKb2 hb; replace BKb5 := lB BKb5 hb; replace HW := lR HW hb; replace HB := lS HB hb; clear hb) | ((with_reducible refine gate_dst (N := 7) rfl ?_); refine box_event ?hg (N := 7) ?hd (cs := #[.int .i64 0, .int .i64 0, .int .i64 0, .slice none 0 0, .string (⟨#[]⟩ : ByteArray), .string (⟨#[]⟩ : ByteArray)]) (t := 24) ?hr ?_; (case hd => rfl); (case hg => rfl); (case hr => first | (go_simp; done) | (go_simp; rfl)); intro b7 hg w7_ hbox hb; have Nb2b7 := nL hg BKb2; have Nb7b2 := nG hg BKb2; have Nb5b7 := nL hg BKb5; have Nb7b5 := nG hg BKb5; have GEb7 := gE hg HB; replace BKb2 := lB BKb2 hb; replace BKb5 := lB BKb5 hb; replace HB := lS HB hb; have BKb7 := Aside0.mk hbox; clear hb hbox hg) | ((with_reducible refine gate_store (p := 7) rfl ?_); refine store_event rfl rfl (w1 := ?w8_n17) ?w8_r17 ?_; (case w8_r17 => (obtain ⟨hz0, hz1, hz2, hz3, hz4, hz5⟩ := cS6 BKb7; have hf := fz BKb7; go_simp; rfl)); generalize hW : World.setCell _ ⟨b7, 5, none⟩ _ = w9_; replace BKb2 := fS6 hW BKb2 Nb2b7; replace BKb5 := fS6 hW BKb5 Nb5b7; replace BKb7 := pS6 hW BKb7; replace HB := sS6 hW HB GEb7; clear hW; obtain ⟨hz20_0, hz20_1, hz20_2, hz20_3, hz20_4, hz20_5⟩ := cS6 BKb7; have hf20_ := fz BKb7) | ((with_reducible refine gate_store (p := 2) rfl ?_); refine store_event rfl rfl (w1 := ?w10_n17) ?w10_r17 ?_; (case w10_r17 => (obtain ⟨hz0, hz1, hz2, hz3, hz4, hz5⟩ := cS6 BKb2; have hf := fz BKb2; go_simp; rfl)); generalize hW : World.setCell _ ⟨b2, 5, none⟩ _ = w11_; replace BKb5 := fS6 hW BKb5 Nb5b2; replace BKb7 := fS6 hW BKb7 Nb7b2; replace BKb2 := pS6 hW BKb2; replace HB := sS6 hW HB GEb2; clear hW))
 refine bodyPost_ret (results_ct rfl _ _ b2 24 #[.int .i64 0, .int .i64 0, .int .i64 0, .slice none 0 0, .string (⟨#[]⟩ : ByteArray), .string (⟨#[]⟩ : ByteArray)] (0, 0) _ rfl BKb2.out Tryz.underlying24 rfl (by kernel_rfl)) rfl ?_
 exact ⟨_, rfl, Kd.R_nil _ _ _ _ _, HB.out⟩
theorem impl_readCall.calls (k : Nat) (a0 : ByteArray) (r1 r2 r3 : Int) (r4 : List Int) (r5 r6 : ByteArray) (r7 : Bool) (w : World) (gw : GW w) (h : impl_readCall.f k a0 = some (r1, r2, r3, r4, r5, r6, r7)) :
  Calls Tryz.prog 11 #[.string a0] w fun e w' => ∃ v3_ : Value, e = .returned (.tuple #[.agg #[.int .i64 r1, .int .i64 r2, .int .i64 r3, v3_, .string r5, .string r6], .bool r7]) ∧ Kd.R (Kd.int .i64) 3 w' w.heap.size (fun _ => True) v3_ r4 ∧ Below w.heap.size w w' := by
 unfold impl_readCall.f at h
 obtain ⟨⟨a, r, x⟩, h0, h⟩ := Option.bind_eq_some_iff.1 h
 obtain ⟨K, hK, h⟩ := Option.bind_eq_some_iff.1 h
 by_cases hlt : K < 1
 ·rw [if_pos hlt] at h
  simp only [Option.some.injEq, Prod.mk.injEq] at h
  obtain ⟨rfl, rfl, rfl, rfl, rfl, rfl, rfl⟩ := h
  exact rc_none k a0 K a r x w gw h0 hK hlt
 ·rw [if_neg hlt] at h
  obtain ⟨p, hp, h⟩ := Option.bind_eq_some_iff.1 h
  obtain ⟨n, hn, h⟩ := Option.bind_eq_some_iff.1 h
  obtain ⟨c, hc, h⟩ := Option.bind_eq_some_iff.1 h
  obtain ⟨y, hy, h⟩ := Option.bind_eq_some_iff.1 h
  by_cases k1 : K = 1
  ·subst k1; obtain rfl := Option.some.inj hp; obtain rfl := Option.some.inj hn; obtain rfl := Option.some.inj hc; obtain rfl := Option.some.inj hy
   exact rc_ftff k a0 1 a r x _ _ _ _ _ _ _ w gw h0 hK hlt rfl rfl rfl rfl h
  by_cases k2 : K = 2
  ·subst k2; obtain rfl := Option.some.inj hp; obtain rfl := Option.some.inj hn; obtain rfl := Option.some.inj hc; obtain rfl := Option.some.inj hy
   exact rc_ttff k a0 2 a r x _ _ _ _ _ _ _ w gw h0 hK hlt rfl rfl rfl rfl h
  by_cases k3 : K = 3
  ·subst k3; obtain rfl := Option.some.inj hp; obtain rfl := Option.some.inj hn; obtain rfl := Option.some.inj hc; obtain rfl := Option.some.inj hy
   exact rc_tfft k a0 3 a r x _ _ _ _ _ _ _ w gw h0 hK hlt rfl rfl rfl rfl h
  by_cases k4 : K = 4
  ·subst k4; obtain rfl := Option.some.inj hp; obtain rfl := Option.some.inj hn; obtain rfl := Option.some.inj hc; obtain rfl := Option.some.inj hy
   exact rc_ttft k a0 4 a r x _ _ _ _ _ _ _ w gw h0 hK hlt rfl rfl rfl rfl h
  by_cases k5 : K = 5
  ·subst k5; obtain rfl := Option.some.inj hp; obtain rfl := Option.some.inj hn; obtain rfl := Option.some.inj hc; obtain rfl := Option.some.inj hy
   exact rc_tfff k a0 5 a r x _ _ _ _ _ _ _ w gw h0 hK hlt rfl rfl rfl rfl h
  by_cases k6 : K = 6
  ·subst k6; obtain rfl := Option.some.inj hp; obtain rfl := Option.some.inj hn; obtain rfl := Option.some.inj hc; obtain rfl := Option.some.inj hy
   exact rc_fftt k a0 6 a r x _ _ _ _ _ _ _ w gw h0 hK hlt rfl rfl rfl rfl h
  by_cases k7 : K = 7
  ·subst k7; obtain rfl := Option.some.inj hp; obtain rfl := Option.some.inj hn; obtain rfl := Option.some.inj hc; obtain rfl := Option.some.inj hy
   exact rc_ffft k a0 7 a r x _ _ _ _ _ _ _ w gw h0 hK hlt rfl rfl rfl rfl h
  by_cases k8 : K = 8
  ·subst k8; obtain rfl := Option.some.inj hp; obtain rfl := Option.some.inj hn; obtain rfl := Option.some.inj hc; obtain rfl := Option.some.inj hy
   exact rc_fftf k a0 8 a r x _ _ _ _ _ _ _ w gw h0 hK hlt rfl rfl rfl rfl h
  have ep : impl_hasPath.f K = some false := by simp only [impl_hasPath.f, impl_within.f]; rw [if_pos (by omega), decide_eq_false (by omega)]; rfl
  have en : impl_hasName.f K = some false := by simp only [impl_hasName.f]; rw [if_neg k1, if_neg k2]; simp [k4]
  have ec : impl_hasConfig.f K = some false := by simp only [impl_hasConfig.f]; rw [if_neg k6]; simp [k8]
  have ey : impl_hasText.f K = some false := by simp only [impl_hasText.f]; rw [if_neg k3, if_neg k4, if_neg k6]; simp [k7]
  obtain rfl := Option.some.inj (hp.symm.trans ep); obtain rfl := Option.some.inj (hn.symm.trans en); obtain rfl := Option.some.inj (hc.symm.trans ec); obtain rfl := Option.some.inj (hy.symm.trans ey)
  exact rc_ffff k a0 K a r x _ _ _ _ _ _ _ w gw h0 hK hlt hp hn hc hy h
end Go.Proofs.YtfjnlliilnmfaaaGreatDoor.RF
end
