/-
  WRITTEN BY wip/tools/prune.py out of this claim's texts: the declarations that the theorem comes to, and no others. In it: Rf.
-/
import Derived.Shelf.Abstract
import Derived.Test.YtfjnlliilnmfaaaGreatDoorC4
section
set_option linter.unusedVariables false
set_option linter.unusedSimpArgs false
namespace Go.Proofs.YtfjnlliilnmfaaaGreatDoor.RF
open Go.RowKit Go.Proofs.YtfjnlliilnmfaaaGreatDoorW.PrintWords Go.Proofs.YtfjnlliilnmfaaaGreatDoorW.PrintLast Go.Proofs.YtfjnlliilnmfaaaGreatDoorW.PrintMore Go.Proofs.YtfjnlliilnmfaaaGreatDoor.Given Go.Proofs.YtfjnlliilnmfaaaGreatDoor.PRCa
section
variable {P : Program} {ops : Array Oper} {rest : List Oper} {o : Oper} {a : Act} {Q : Exit → Act → World → Prop}
theorem store_event {W w1 : World} (hgd : o.guard = none) (hN : o.dst = none) (hrun : (execOp a.eval o).run P W = .ok .skip w1) (h : wpList P ops Q rest a w1) : wpList P ops Q (o :: rest) a W := by
 refine wpList_plain hgd fun K hK => ?_
 unfold Oper.wp
 rw [hrun]
 refine hK _ _ ?_
 rw [hN]
 exact h
theorem goesV_ {W : World} (N : Option Tmp) (hd : o.dst = N) (hg : o.guard = none) {f : FuncId} {fn : Func} {p : Tmp} (hf : P.funcs[f]? = some fn) (hname : (fn.name == "runtime.NumGoroutine") = false) (hb : fn.body.isSome = true) (bs : Array Value)
  (hop : o.op = .call { callee := .value (.tmp p), args := #[], argTypes := #[] }) (hp : a.eval (.tmp p) = .func (.func f) #[] bs)
  (h : Calls P f bs W fun e w' => ∃ v, e = .returned v ∧ wpList P ops Q rest (a.put N v) w') : wpList P ops Q (o :: rest) a W := by
 refine wpList_plain hg fun K hK => ?_
 have he := enters_ hf hname hb bs W
 have hrun : (execOp a.eval o).run P W = .ok (.enter f bs) W := by
  unfold execOp
  simp [hop, resolve, Deferred.ofValue, invoke, hp, he]
 unfold Oper.wp
 rw [hrun, Oper.upon_enter]
 refine h.mono fun e w'' hh => ?_
 obtain ⟨v, rfl, hk⟩ := hh
 subst hd
 exact hK _ _ hk
end
section
variable {W W' w : World} {g b i t : Nat} {ob : Obj} {cs cs' : Array Value} {c0 c1 c2 c3 c4 c5 u u0 u1 u2 u3 u4 u5 v : Value} {α : Type} {d : Kd α} {e base : Nat} {xs : List α}
theorem lB (h : Aside0 (W.heap[g]? = some ob)) (hb : Below W.heap.size W W') : Aside0 (W'.heap[g]? = some ob) := ⟨blk_below h.out hb⟩
theorem lS (h : Aside0 (Below w.heap.size w W)) (hb : Below W.heap.size W W') : Aside0 (Below w.heap.size w W') := ⟨below_step h.out hb⟩
theorem lR (h : Aside0 (d.R e W base (fun _ => True) v xs)) (hb : Below W.heap.size W W') : Aside0 (d.R e W' base (fun _ => True) v xs) := ⟨Kd.R_below h.out hb⟩
theorem lG (h : Aside0 (W.heap[g]? = some ob)) (hg : W.grownBy W' (some b)) (n : Aside0 (g ≠ b)) : Aside0 (W'.heap[g]? = some ob) := ⟨blk_grown h.out hg (by simpa using n.out)⟩
theorem lQ (h : Aside0 (d.R e W base (fun _ => True) v xs)) (hg : W.grownBy W' (some b)) (k : Aside0 (W.heap[b]? = some (.cells cs t (0, 0)))) (ht : ∀ q, q ∈ e :: d.E → q ≠ t) : Aside0 (d.R e W' base (fun _ => True) v xs) :=
 ⟨Kd.R_mono (Kd.R_grown (Kd.R_types h.out k.out ht) hg (fun k_ hk_ e_ => hk_.2 (by simpa using e_))) (fun _ _ => trivial)⟩
theorem nL (hg : b = W.heap.size) (h : Aside0 (W.heap[g]? = some ob)) : Aside0 (g ≠ b) := ⟨by rw [hg]; exact Nat.ne_of_lt (blk_lt h.out)⟩
theorem nG (hg : b = W.heap.size) (h : Aside0 (W.heap[g]? = some ob)) : Aside0 (b ≠ g) := ⟨by rw [hg]; exact Nat.ne_of_gt (blk_lt h.out)⟩
theorem gE (hg : b = W.heap.size) (h : Aside0 (Below w.heap.size w W)) : Aside0 (w.heap.size ≤ b) := ⟨by rw [hg]; exact below_size h.out⟩
theorem fz (h : Aside0 (W.heap[b]? = some (.cells cs t (0, 0)))) : ∀ i, W.frozen? ⟨b, i, none⟩ = false := fun i => blk_frozen h.out i
theorem cel (h : Aside0 (W.heap[b]? = some (.cells cs t (0, 0)))) (i : Nat) (hc : cs[i]? = some u) : W.cell? ⟨b, i, none⟩ = some u := (blk_cell h.out i).trans hc
theorem cS6 (h : Aside0 (W.heap[b]? = some (.cells #[c0, c1, c2, c3, c4, c5] t (0, 0)))) : W.cell? ⟨b, 0, none⟩ = some c0 ∧ W.cell? ⟨b, 1, none⟩ = some c1 ∧ W.cell? ⟨b, 2, none⟩ = some c2 ∧ W.cell? ⟨b, 3, none⟩ = some c3 ∧ W.cell? ⟨b, 4, none⟩ = some c4 ∧ W.cell? ⟨b, 5, none⟩ = some c5 :=
 ⟨cel h 0 rfl, cel h 1 rfl, cel h 2 rfl, cel h 3 rfl, cel h 4 rfl, cel h 5 rfl⟩
theorem fS1 (hW : W.setCell ⟨b, i, none⟩ u = W') (h : Aside0 (W.heap[g]? = some (.cells cs t (0, 0)))) (n : Aside0 (g ≠ b)) : Aside0 (W'.heap[g]? = some (.cells cs t (0, 0))) := ⟨hW ▸ blk_far h.out n.out u⟩
theorem pS1 (hW : W.setCell ⟨b, i, none⟩ u = W') (h : Aside0 (W.heap[b]? = some (.cells cs t (0, 0)))) (e : cs.setIfInBounds i u = cs') : Aside0 (W'.heap[b]? = some (.cells cs' t (0, 0))) := ⟨hW ▸ blk_put h.out i u e⟩
theorem sS1 (hW : W.setCell ⟨b, i, none⟩ u = W') (h : Aside0 (Below w.heap.size w W)) (n : Aside0 (w.heap.size ≤ b)) : Aside0 (Below w.heap.size w W') := ⟨hW ▸ below_set h.out n.out⟩
theorem rS1 (hW : W.setCell ⟨b, i, none⟩ u = W') (h : Aside0 (d.R e W base (fun _ => True) v xs)) (k : Aside0 (W.heap[b]? = some (.cells cs t (0, 0)))) (ht : ∀ q, q ∈ e :: d.E → q ≠ t) : Aside0 (d.R e W' base (fun _ => True) v xs) :=
 ⟨hW ▸ Kd.R_mono (Kd.R_far (p := ⟨b, i, none⟩) (Kd.R_types h.out k.out ht) (fun _ hk => hk.2) u) (fun _ _ => trivial)⟩
theorem fS6 (hW : (((((W.setCell ⟨b, 0, none⟩ u0).setCell ⟨b, 1, none⟩ u1).setCell ⟨b, 2, none⟩ u2).setCell ⟨b, 3, none⟩ u3).setCell ⟨b, 4, none⟩ u4).setCell ⟨b, 5, none⟩ u5 = W') (h : Aside0 (W.heap[g]? = some (.cells cs t (0, 0)))) (n : Aside0 (g ≠ b)) : Aside0 (W'.heap[g]? = some (.cells cs t (0, 0))) :=
 fS1 hW (fS1 rfl (fS1 rfl (fS1 rfl (fS1 rfl (fS1 rfl h n) n) n) n) n) n
theorem pS6 (hW : (((((W.setCell ⟨b, 0, none⟩ u0).setCell ⟨b, 1, none⟩ u1).setCell ⟨b, 2, none⟩ u2).setCell ⟨b, 3, none⟩ u3).setCell ⟨b, 4, none⟩ u4).setCell ⟨b, 5, none⟩ u5 = W') (h : Aside0 (W.heap[b]? = some (.cells #[c0, c1, c2, c3, c4, c5] t (0, 0)))) : Aside0 (W'.heap[b]? = some (.cells #[u0, u1, u2, u3, u4, u5] t (0, 0))) :=
 pS1 hW (pS1 rfl (pS1 rfl (pS1 rfl (pS1 rfl (pS1 rfl h rfl) rfl) rfl) rfl) rfl) rfl
theorem sS6 (hW : (((((W.setCell ⟨b, 0, none⟩ u0).setCell ⟨b, 1, none⟩ u1).setCell ⟨b, 2, none⟩ u2).setCell ⟨b, 3, none⟩ u3).setCell ⟨b, 4, none⟩ u4).setCell ⟨b, 5, none⟩ u5 = W') (h : Aside0 (Below w.heap.size w W)) (n : Aside0 (w.heap.size ≤ b)) : Aside0 (Below w.heap.size w W') :=
 sS1 hW (sS1 rfl (sS1 rfl (sS1 rfl (sS1 rfl (sS1 rfl h n) n) n) n) n) n
theorem rS6 (hW : (((((W.setCell ⟨b, 0, none⟩ u0).setCell ⟨b, 1, none⟩ u1).setCell ⟨b, 2, none⟩ u2).setCell ⟨b, 3, none⟩ u3).setCell ⟨b, 4, none⟩ u4).setCell ⟨b, 5, none⟩ u5 = W') (h : Aside0 (d.R e W base (fun _ => True) v xs)) (k : Aside0 (W.heap[b]? = some (.cells #[c0, c1, c2, c3, c4, c5] t (0, 0)))) (ht : ∀ q, q ∈ e :: d.E → q ≠ t) : Aside0 (d.R e W' base (fun _ => True) v xs) :=
 rS1 hW (rS1 rfl (rS1 rfl (rS1 rfl (rS1 rfl (rS1 rfl h k ht) (pS1 rfl k rfl) ht) (pS1 rfl (pS1 rfl k rfl) rfl) ht) (pS1 rfl (pS1 rfl (pS1 rfl k rfl) rfl) rfl) ht) (pS1 rfl (pS1 rfl (pS1 rfl (pS1 rfl k rfl) rfl) rfl) rfl) ht) (pS1 rfl (pS1 rfl (pS1 rfl (pS1 rfl (pS1 rfl k rfl) rfl) rfl) rfl) rfl) ht
theorem gS (h : Aside0 (Below w.heap.size w W)) (hg : W.grownBy W' (some b)) (n : Aside0 (w.heap.size ≤ b)) : Aside0 (Below w.heap.size w W') :=
 ⟨pw_below_grown h.out (some b) (below_size h.out) hg (fun k_ e_ => by have := n.out; have e2_ : b = k_ := Option.some.inj e_; omega)⟩
end
section
variable {P : Program} {ops : Array Oper} {rest : List Oper} {o : Oper} {a : Act} {Q : Exit → Act → World → Prop}
theorem goM {W : World} (N : Option Tmp) {f : FuncId} {fn : Func} {aa : Array Operand} {ts : Array TypeId} (hf : P.funcs[f]? = some fn) (args : Array Value)
  (h : Calls P f args W fun e w' => ∃ v, e = .returned v ∧ wpList P ops Q rest (a.put N v) w')
  (hop : o.op = .call { callee := .value (.func f), args := aa, argTypes := ts } := by rfl) (hd : o.dst = N := by rfl) (hg : o.guard = none := by rfl) (hname : (fn.name == "runtime.NumGoroutine") = false := by kernel_rfl) (hb : fn.body.isSome = true := by rfl)
  (hargs : aa.map a.eval = args := by (try simp only [List.map_toArray, List.map_cons, List.map_nil]); first | done | rfl | (simp only [List.length_drop, List.length_take]; rfl)) : wpList P ops Q (o :: rest) a W :=
 goesL_ N hd hg hf hname hb args hop hargs h
end
abbrev sp : ByteArray := ⟨#[32]⟩
theorem next_calls {b5 : Nat} {r a' r' : ByteArray} {x : Bool} {W : World} (gw : GW W) (hc : strings_Cut.f r sp = some (a', r', x)) (h5 : W.heap[b5]? = some (.cells #[.string r] 9 (0, 0))) :
  Calls Tryz.prog 26 #[.pointer (some ⟨b5, 0, none⟩)] W fun e w' => e = .returned (.string a') ∧ w'.heap[b5]? = some (.cells #[.string r'] 9 (0, 0)) ∧ W.grownBy w' (some b5) := by
 have hz : W.cell? ⟨b5, 0, none⟩ = some (.string r) := (blk_cell h5 0).trans rfl
 have H5 := Aside0.mk h5
 have HC := Aside0.mk hc
 have HG := Aside0.mk gw
 clear gw hc h5
 go_enter Tryz.func26, Tryz.ntmps26
 go_wp2_with (first | (go_at_call 23; refine (strings_Cut.calls r sp a' r' x _ HG.out HC.out).mono ?_; rintro e w1 ⟨rfl, hb⟩; have B1 := Aside0.mk (blk_below H5.out hb); have HB := Aside0.mk hb; clear hb; have hz1 : w1.cell? ⟨b5, 0, none⟩ = some (.string r) := (blk_cell B1.out 0).trans rfl; have hf1 := blk_frozen B1.out 0))
 go_ret
 refine ⟨rfl, blk_put B1.out 0 _ rfl, ?_⟩
 exact ⟨HB.out.os, HB.out.tape, HB.out.output, by simpa [World.setCell] using HB.out.size, fun k hk hne => (Below.heap_setCell _ _ _ _ (fun e => hne (by rw [e]))).trans (HB.out.block k hk)⟩
def W10 : List ByteArray := (impl_callWords.f).getD []
theorem W10_is : impl_callWords.f = some W10 := rfl
def tailI (k : Nat) (t : ByteArray) (K : Int) (r0 : ByteArray) (p n c x : Bool) : Option (Int × Int × Int × List Int × ByteArray × ByteArray × Bool) :=
  (strings_Cut.f r0 sp).bind fun c1 => (impl_number.f c1.1).bind fun d =>
  (if p = true then (strings_Cut.f c1.2.1 sp).bind fun c2 => (impl_readPath.f k c2.1).bind fun q => some (q.1, c2.2.1) else some ([], c1.2.1)).bind fun y =>
  (if n = true then (strings_Cut.f y.2 sp).bind fun c3 => some (c3.1, c3.2.1) else some (⟨#[]⟩, y.2)).bind fun z =>
  (if c = true then (strings_Cut.f z.2 sp).bind fun c4 => (impl_number.f c4.1).bind fun g => some (g.1, c4.2.1) else some (0, z.2)).bind fun u =>
  (impl_CallOK.f k K d.1 u.1 y.1 z.1 (if x = true then u.2 else ⟨#[]⟩)).bind fun ok =>
  if ok = true then (impl_callText.f k K d.1 u.1 y.1 z.1 (if x = true then u.2 else ⟨#[]⟩)).bind fun ct => if ct.toList = t.toList then some (K, d.1, u.1, y.1, z.1, (if x = true then u.2 else ⟨#[]⟩), true) else some (0, 0, 0, [], ⟨#[]⟩, ⟨#[]⟩, false)
  else some (0, 0, 0, [], ⟨#[]⟩, ⟨#[]⟩, false)
def impl_readCall.f (k : Nat) (t : ByteArray) : Option (Int × Int × Int × List Int × ByteArray × ByteArray × Bool) :=
  (strings_Cut.f t sp).bind fun c0 => (slices_Index_string_string.f k W10 c0.1).bind fun K =>
  if K < 1 then some (0, 0, 0, [], ⟨#[]⟩, ⟨#[]⟩, false) else
  (impl_hasPath.f K).bind fun p => (impl_hasName.f K).bind fun n => (impl_hasConfig.f K).bind fun c => (impl_hasText.f K).bind fun x => tailI k t K c0.2.1 p n c x
theorem drawn_below {w w' : World} (h : Drawn0 w w') : Below w.heap.size w w' := by
 obtain ⟨n, rfl⟩ := h
 exact pw_below_drewN (Below.refl _ _) n
set_option maxHeartbeats 4000000 in
set_option maxRecDepth 100000 in
theorem rc_ftff (k : Nat) (t : ByteArray) (K : Int) (a0 r0 : ByteArray) (x0 : Bool) (v1 v2 v3 : Int) (v4 : List Int) (v5 v6 : ByteArray) (v7 : Bool) (w : World) (gw : GW w) (h0 : strings_Cut.f t sp = some (a0, r0, x0)) (hK : slices_Index_string_string.f k W10 a0 = some K) (hge : ¬ K < 1)
  (hp : impl_hasPath.f K = some false) (hn : impl_hasName.f K = some true) (hc : impl_hasConfig.f K = some false) (hx : impl_hasText.f K = some false) (h : tailI k t K r0 false true false false = some (v1, v2, v3, v4, v5, v6, v7)) :
  Calls Tryz.prog 11 #[.string t] w fun e w' => ∃ v_ : Value, e = .returned (.tuple #[.agg #[.int .i64 v1, .int .i64 v2, .int .i64 v3, v_, .string v5, .string v6], .bool v7]) ∧ Kd.R (Kd.int .i64) 3 w' w.heap.size (fun _ => True) v_ v4 ∧ Below w.heap.size w w' := by
 have hu24 := Tryz.underlying24
 have eg := enters_of Tryz.func26 (by kernel_rfl) rfl
 have HG := Aside0.mk gw
 have HB := Aside0.mk (Below.refl w.heap.size w)
 have HX0 := Aside0.mk h0
 have HXK := Aside0.mk hK
 have HP := Aside0.mk hp
 have HN := Aside0.mk hn
 have HC := Aside0.mk hc
 have HT := Aside0.mk hx
 have d1 : decide (K < 1) = false := decide_eq_false hge
 clear gw h0 hK hp hn hc hx hge
 unfold tailI at h
 obtain ⟨⟨a1, r1, x1⟩, e1, h⟩ := Option.bind_eq_some_iff.1 h
 obtain ⟨⟨d, bd⟩, e2, h⟩ := Option.bind_eq_some_iff.1 h
 have HX1 := Aside0.mk e1
 have HXd := Aside0.mk e2
 clear e1 e2
 obtain ⟨⟨y1, y2⟩, e3, h⟩ := Option.bind_eq_some_iff.1 h
 rw [if_neg (by decide)] at e3
 simp only [Option.some.injEq, Prod.mk.injEq] at e3
 obtain ⟨rfl, rfl⟩ := e3
 obtain ⟨⟨z1, z2⟩, e6, h⟩ := Option.bind_eq_some_iff.1 h
 rw [if_pos rfl] at e6
 obtain ⟨⟨a3, r3, x3⟩, e7, e6⟩ := Option.bind_eq_some_iff.1 e6
 simp only [Option.some.injEq, Prod.mk.injEq] at e6
 obtain ⟨rfl, rfl⟩ := e6
 have HX3 := Aside0.mk e7
 clear e7
 obtain ⟨⟨u1, u2⟩, e8, h⟩ := Option.bind_eq_some_iff.1 h
 rw [if_neg (by decide)] at e8
 simp only [Option.some.injEq, Prod.mk.injEq] at e8
 obtain ⟨rfl, rfl⟩ := e8
 obtain ⟨ok, e11, h⟩ := Option.bind_eq_some_iff.1 h
 simp only [Bool.false_eq_true, if_false] at e11 h
 have HXo := Aside0.mk e11
 clear e11
 have HH := Aside0.mk h
 clear h
 go_enter Tryz.func11, Tryz.ntmps11
 go_upto_region 15 with (first | ((with_reducible refine gate_dst (N := 2) rfl ?_); refine box_event ?hg (N := 2) ?hd (cs := #[.int .i64 0, .int .i64 0, .int .i64 0, .slice none 0 0, .string (⟨#[]⟩ : ByteArray), .string (⟨#[]⟩ : ByteArray)]) (t := 24) ?hr ?_; (case hd => rfl); (case hg => rfl); (case hr => first | (go_simp; done) | (go_simp; rfl)); intro b2 hg w1_ hbox hb; have GEb2 := gE hg HB; replace HB := lS HB hb; have BKb2 := Aside0.mk hbox; clear hb hbox hg) | ((with_reducible refine gate_callee (f := 23) rfl ?_); refine goM (some 11) Tryz.func23 #[.string t, .string sp] ?_; refine (strings_Cut.calls t sp a0 r0 x0 _ (HG.out.below HB.out) HX0.out).mono ?_; rintro e w2_ ⟨rfl, hb⟩; refine ⟨_, rfl, ?_⟩; replace BKb2 := lB BKb2 hb; replace HB := lS HB hb; clear hb) | ((with_reducible refine gate_dst (N := 5) rfl ?_); refine box_event ?hg (N := 5) ?hd (cs := #[.string (⟨#[]⟩ : ByteArray)]) (t := 9) ?hr ?_; (case hd => rfl); (case hg => rfl); (case hr => first | (go_simp; done) | (go_simp; rfl)); intro b5 hg w3_ hbox hb; have Nb2b5 := nL hg BKb2; have Nb5b2 := nG hg BKb2; have GEb5 := gE hg HB; replace BKb2 := lB BKb2 hb; replace HB := lS HB hb; have BKb5 := Aside0.mk hbox; clear hb hbox hg) | ((with_reducible refine gate_store (p := 5) rfl ?_); refine store_event rfl rfl (w1 := ?w4_n1) ?w4_r1 ?_; (case w4_r1 => (have hz := cel BKb5 0 rfl; have hf := fz BKb5; go_simp; rfl)); generalize hW : World.setCell _ ⟨b5, 0, none⟩ _ = w5_; replace BKb2 := fS1 hW BKb2 Nb2b5; replace BKb5 := pS1 (cs' := #[.string r0]) hW BKb5 rfl; replace HB := sS1 hW HB GEb5; clear hW) | ((with_reducible refine gate_callee (f := 25) rfl ?_); refine goM (some 15) Tryz.func25 #[] ?_; refine (impl_callWords.calls W10 _ W10_is).mono ?_; rintro e w6_ ⟨vw_, rfl, ho0, hb⟩; refine ⟨_, rfl, ?_⟩; have nw_ := Aside0.mk (Kd.R_lower ho0 (below_size HB.out)); clear ho0; replace BKb2 := lB BKb2 hb; replace BKb5 := lB BKb5 hb; replace HB := lS HB hb; clear hb; have HW := nw_; clear nw_; obtain ⟨Aw, cw, ew⟩ := Kd.R_slice HW.out; subst ew) | ((with_reducible refine gate_callee (f := 24) rfl ?_); refine goM (some 17) Tryz.func24 #[.slice Aw W10.length cw, .string a0] ?_; refine (slices_Index_string_string.calls k _ _ W10 a0 K _ (Kd.R_reads' HW.out).2.2 (Kd.R_reads' HW.out).2.1 HXK.out).mono ?_; rintro e w' ⟨rfl, hd⟩; refine ⟨_, rfl, ?_⟩; have hb := Go.Proofs.YtfjnlliilnmfaaaGreatDoor.RF.drawn_below hd; clear hd; replace BKb2 := lB BKb2 hb; replace BKb5 := lB BKb5 hb; replace HW := lR HW hb; replace HB := lS HB hb; clear hb) | ((with_reducible refine gate_dst (N := 7) rfl ?_); refine box_event ?hg (N := 7) ?hd (cs := #[.int .i64 0, .int .i64 0, .int .i64 0, .slice none 0 0, .string (⟨#[]⟩ : ByteArray), .string (⟨#[]⟩ : ByteArray)]) (t := 24) ?hr ?_; (case hd => rfl); (case hg => rfl); (case hr => first | (go_simp; done) | (go_simp; rfl)); intro b7 hg w7_ hbox hb; have Nb2b7 := nL hg BKb2; have Nb7b2 := nG hg BKb2; have Nb5b7 := nL hg BKb5; have Nb7b5 := nG hg BKb5; have GEb7 := gE hg HB; replace BKb2 := lB BKb2 hb; replace BKb5 := lB BKb5 hb; replace HB := lS HB hb; have BKb7 := Aside0.mk hbox; clear hb hbox hg) | ((with_reducible refine gate_store (p := 7) rfl ?_); refine store_event rfl rfl (w1 := ?w8_n1) ?w8_r1 ?_; (case w8_r1 => (obtain ⟨hz0, hz1, hz2, hz3, hz4, hz5⟩ := cS6 BKb7; have hf := fz BKb7; go_simp; rfl)); generalize hW : World.setCell _ ⟨b7, 5, none⟩ _ = w9_; replace BKb2 := fS6 hW BKb2 Nb2b7; replace BKb5 := fS6 hW BKb5 Nb5b7; replace BKb7 := pS6 hW BKb7; replace HB := sS6 hW HB GEb7; clear hW; obtain ⟨hz20_0, hz20_1, hz20_2, hz20_3, hz20_4, hz20_5⟩ := cS6 BKb7; have hf20_ := fz BKb7) | ((with_reducible refine gate_dst (N := 26) rfl ?_); refine goesV_ (p := 25) (some 26) rfl rfl Tryz.func26 (by kernel_rfl) rfl #[.pointer (some ⟨b5, 0, none⟩)] rfl rfl ?_; refine (next_calls (HG.out.below HB.out) HX1.out BKb5.out).mono ?_; rintro e w10_ ⟨rfl, h5, hg⟩; refine ⟨_, rfl, ?_⟩; replace BKb2 := lG BKb2 hg Nb2b5; replace BKb7 := lG BKb7 hg Nb7b5; replace BKb5 := Aside0.mk h5; replace HB := gS HB hg GEb5; clear h5 hg) | ((with_reducible refine gate_callee (f := 27) rfl ?_); refine goM (some 27) Tryz.func27 #[.string a1] ?_; refine (impl_number.calls a1 d bd _ (HG.out.below HB.out) HXd.out).mono ?_; rintro e w11_ ⟨rfl, hb⟩; refine ⟨_, rfl, ?_⟩; replace BKb2 := lB BKb2 hb; replace BKb5 := lB BKb5 hb; replace BKb7 := lB BKb7 hb; replace HB := lS HB hb; clear hb) | ((with_reducible refine gate_store (p := 30) rfl ?_); refine store_event rfl rfl (w1 := ?w12_n1) ?w12_r1 ?_; (case w12_r1 => (have hz := cel BKb7 1 rfl; have hf := fz BKb7; go_simp; rfl)); generalize hW : World.setCell _ ⟨b7, 1, none⟩ _ = w13_; replace BKb2 := fS1 hW BKb2 Nb2b7; replace BKb5 := fS1 hW BKb5 Nb5b7; replace BKb7 := pS1 (cs' := #[.int .i64 K, .int .i64 d, .int .i64 0, .slice none 0 0, .string (⟨#[]⟩ : ByteArray), .string (⟨#[]⟩ : ByteArray)]) hW BKb7 rfl; replace HB := sS1 hW HB GEb7; clear hW; obtain ⟨hz32_0, hz32_1, hz32_2, hz32_3, hz32_4, hz32_5⟩ := cS6 BKb7; have hf32_ := fz BKb7) | ((with_reducible refine gate_callee (f := 28) rfl ?_); refine goM (some 33) Tryz.func28 #[.int .i64 K] ?_; refine (impl_hasPath.calls K _ _ HP.out).mono ?_; rintro e w' ⟨rfl, hd⟩; refine ⟨_, rfl, ?_⟩; have hb := Go.Proofs.YtfjnlliilnmfaaaGreatDoor.RF.drawn_below hd; clear hd; replace BKb2 := lB BKb2 hb; replace BKb5 := lB BKb5 hb; replace BKb7 := lB BKb7 hb; replace HB := lS HB hb; clear hb; obtain ⟨hz42_0, hz42_1, hz42_2, hz42_3, hz42_4, hz42_5⟩ := cS6 BKb7; have hf42_ := fz BKb7) | ((with_reducible refine gate_callee (f := 30) rfl ?_); refine goM (some 43) Tryz.func30 #[.int .i64 K] ?_; refine (impl_hasName.calls K _ _ HN.out).mono ?_; rintro e w' ⟨rfl, hd⟩; refine ⟨_, rfl, ?_⟩; have hb := Go.Proofs.YtfjnlliilnmfaaaGreatDoor.RF.drawn_below hd; clear hd; replace BKb2 := lB BKb2 hb; replace BKb5 := lB BKb5 hb; replace BKb7 := lB BKb7 hb; replace HB := lS HB hb; clear hb) | ((with_reducible refine gate_dst (N := 45) rfl ?_); refine goesV_ (p := 44) (some 45) rfl rfl Tryz.func26 (by kernel_rfl) rfl #[.pointer (some ⟨b5, 0, none⟩)] rfl rfl ?_; refine (next_calls (HG.out.below HB.out) HX3.out BKb5.out).mono ?_; rintro e w14_ ⟨rfl, h5, hg⟩; refine ⟨_, rfl, ?_⟩; replace BKb2 := lG BKb2 hg Nb2b5; replace BKb7 := lG BKb7 hg Nb7b5; replace BKb5 := Aside0.mk h5; replace HB := gS HB hg GEb5; clear h5 hg) | ((with_reducible refine gate_store (p := 46) rfl ?_); refine store_event rfl rfl (w1 := ?w15_n1) ?w15_r1 ?_; (case w15_r1 => (have hz := cel BKb7 4 rfl; have hf := fz BKb7; go_simp; rfl)); generalize hW : World.setCell _ ⟨b7, 4, none⟩ _ = w16_; replace BKb2 := fS1 hW BKb2 Nb2b7; replace BKb5 := fS1 hW BKb5 Nb5b7; replace BKb7 := pS1 (cs' := #[.int .i64 K, .int .i64 d, .int .i64 0, .slice none 0 0, .string a3, .string (⟨#[]⟩ : ByteArray)]) hW BKb7 rfl; replace HB := sS1 hW HB GEb7; clear hW; obtain ⟨hz48_0, hz48_1, hz48_2, hz48_3, hz48_4, hz48_5⟩ := cS6 BKb7; have hf48_ := fz BKb7) | ((with_reducible refine gate_callee (f := 31) rfl ?_); refine goM (some 49) Tryz.func31 #[.int .i64 K] ?_; refine (impl_hasConfig.calls K _ _ HC.out).mono ?_; rintro e w' ⟨rfl, hd⟩; refine ⟨_, rfl, ?_⟩; have hb := Go.Proofs.YtfjnlliilnmfaaaGreatDoor.RF.drawn_below hd; clear hd; replace BKb2 := lB BKb2 hb; replace BKb5 := lB BKb5 hb; replace BKb7 := lB BKb7 hb; replace HB := lS HB hb; clear hb; obtain ⟨hz58_0, hz58_1, hz58_2, hz58_3, hz58_4, hz58_5⟩ := cS6 BKb7; have hf58_ := fz BKb7) | ((with_reducible refine gate_callee (f := 32) rfl ?_); refine goM (some 59) Tryz.func32 #[.int .i64 K] ?_; refine (impl_hasText.calls K _ _ HT.out).mono ?_; rintro e w' ⟨rfl, hd⟩; refine ⟨_, rfl, ?_⟩; have hb := Go.Proofs.YtfjnlliilnmfaaaGreatDoor.RF.drawn_below hd; clear hd; replace BKb2 := lB BKb2 hb; replace BKb5 := lB BKb5 hb; replace BKb7 := lB BKb7 hb; replace HB := lS HB hb; clear hb; obtain ⟨hz62_0, hz62_1, hz62_2, hz62_3, hz62_4, hz62_5⟩ := cS6 BKb7; have hf62_ := fz BKb7))
 have h := HH.out
 clear HH
 cases ok
 case false =>
  simp only [Bool.false_eq_true, if_false, Option.some.injEq, Prod.mk.injEq] at h
  obtain ⟨rfl, rfl, rfl, rfl, rfl, rfl, rfl⟩ := h
  go_wp2_with (first | ((with_reducible refine gate_callee (f := 33) rfl ?_); refine goM (some 63) Tryz.func33 #[.agg #[.int .i64 K, .int .i64 d, .int .i64 (0 : Int), .slice none 0 0, .string a3, .string (⟨#[]⟩ : ByteArray)]] ?_; refine (impl_CallOK.calls k K d (0 : Int) none 0 ([] : List Int) a3 (⟨#[]⟩ : ByteArray) _ _ (Kd.R_reads' (Kd.R_nil (Kd.int .i64) 3 _ w.heap.size (fun _ => True))).2.2 (Nat.le_refl 0) HXo.out).mono ?_; rintro e w17_ ⟨rfl, hb⟩; refine ⟨_, rfl, ?_⟩; replace BKb2 := lB BKb2 hb; replace BKb5 := lB BKb5 hb; replace BKb7 := lB BKb7 hb; replace HB := lS HB hb; clear hb) | ((with_reducible refine gate_store (p := 2) rfl ?_); refine store_event rfl rfl (w1 := ?w18_n2) ?w18_r2 ?_; (case w18_r2 => (obtain ⟨hz0, hz1, hz2, hz3, hz4, hz5⟩ := cS6 BKb2; have hf := fz BKb2; go_simp; rfl)); generalize hW : World.setCell _ ⟨b2, 5, none⟩ _ = w19_; replace BKb5 := fS6 hW BKb5 Nb5b2; replace BKb7 := fS6 hW BKb7 Nb7b2; replace BKb2 := pS6 hW BKb2; replace HB := sS6 hW HB GEb2; clear hW))
  refine bodyPost_ret (results_ct rfl _ _ b2 24 #[.int .i64 0, .int .i64 0, .int .i64 0, .slice none 0 0, .string (⟨#[]⟩ : ByteArray), .string (⟨#[]⟩ : ByteArray)] (0, 0) _ rfl BKb2.out Tryz.underlying24 rfl (by kernel_rfl)) rfl ?_
  exact ⟨_, rfl, Kd.R_nil _ _ _ _ _, HB.out⟩
 case true =>
  rw [if_pos rfl] at h
  obtain ⟨ct, e12, h⟩ := Option.bind_eq_some_iff.1 h
  have HXt := Aside0.mk e12
  clear e12
  by_cases hct : ct.toList = t.toList
  ·rw [if_pos hct] at h
   have t1 : (ct.toList != t.toList) = false := by rw [hct]; simp
   have t2 : (ct.toList == t.toList) = true := by rw [hct]; simp
   clear hct
   simp only [Option.some.injEq, Prod.mk.injEq] at h
   obtain ⟨rfl, rfl, rfl, rfl, rfl, rfl, rfl⟩ := h
   go_wp2_with (first | ((with_reducible refine gate_callee (f := 33) rfl ?_); refine goM (some 63) Tryz.func33 #[.agg #[.int .i64 K, .int .i64 d, .int .i64 (0 : Int), .slice none 0 0, .string a3, .string (⟨#[]⟩ : ByteArray)]] ?_; refine (impl_CallOK.calls k K d (0 : Int) none 0 ([] : List Int) a3 (⟨#[]⟩ : ByteArray) _ _ (Kd.R_reads' (Kd.R_nil (Kd.int .i64) 3 _ w.heap.size (fun _ => True))).2.2 (Nat.le_refl 0) HXo.out).mono ?_; rintro e w17_ ⟨rfl, hb⟩; refine ⟨_, rfl, ?_⟩; replace BKb2 := lB BKb2 hb; replace BKb5 := lB BKb5 hb; replace BKb7 := lB BKb7 hb; replace HB := lS HB hb; clear hb; obtain ⟨hz66_0, hz66_1, hz66_2, hz66_3, hz66_4, hz66_5⟩ := cS6 BKb7; have hf66_ := fz BKb7) | ((with_reducible refine gate_dst (N := 67) rfl ?_); (try (refine gate_guard (by rfl) ?_; dsimp only)); (with_reducible refine gate_callee (f := 34) rfl ?_); refine goM (some 67) Tryz.func34 #[.agg #[.int .i64 K, .int .i64 d, .int .i64 (0 : Int), .slice none 0 0, .string a3, .string (⟨#[]⟩ : ByteArray)]] ?_; refine (impl_callText.calls k K d (0 : Int) none 0 ([] : List Int) a3 (⟨#[]⟩ : ByteArray) ct _ (HG.out.below HB.out) (Kd.R_reads' (Kd.R_nil (Kd.int .i64) 3 _ w.heap.size (fun _ => True))).2.2 (Nat.le_refl 0) HXt.out).mono ?_; rintro e w18_ ⟨rfl, hb⟩; refine ⟨_, rfl, ?_⟩; replace BKb2 := lB BKb2 hb; replace BKb5 := lB BKb5 hb; replace BKb7 := lB BKb7 hb; replace HB := lS HB hb; clear hb; obtain ⟨hz72_0, hz72_1, hz72_2, hz72_3, hz72_4, hz72_5⟩ := cS6 BKb7; have hf72_ := fz BKb7) | ((with_reducible refine gate_store (p := 2) rfl ?_); refine store_event rfl rfl (w1 := ?w19_n3) ?w19_r3 ?_; (case w19_r3 => (obtain ⟨hz0, hz1, hz2, hz3, hz4, hz5⟩ := cS6 BKb2; have hf := fz BKb2; go_simp; rfl)); generalize hW : World.setCell _ ⟨b2, 5, none⟩ _ = w20_; replace BKb5 := fS6 hW BKb5 Nb5b2; replace BKb7 := fS6 hW BKb7 Nb7b2; replace BKb2 := pS6 hW BKb2; replace HB := sS6 hW HB GEb2; clear hW))
   refine bodyPost_ret (results_ct rfl _ _ b2 24 #[.int .i64 K, .int .i64 d, .int .i64 (0 : Int), .slice none 0 0, .string a3, .string (⟨#[]⟩ : ByteArray)] (0, 0) _ rfl BKb2.out Tryz.underlying24 rfl (by kernel_rfl)) rfl ?_
   exact ⟨_, rfl, Kd.R_nil _ _ _ _ _, HB.out⟩
  ·rw [if_neg hct] at h
   have t1 : (ct.toList != t.toList) = true := by simpa using hct
   have t2 : (ct.toList == t.toList) = false := by simpa using hct
   clear hct
   simp only [Option.some.injEq, Prod.mk.injEq] at h
   obtain ⟨rfl, rfl, rfl, rfl, rfl, rfl, rfl⟩ := h
   go_wp2_with (first | ((with_reducible refine gate_callee (f := 33) rfl ?_); refine goM (some 63) Tryz.func33 #[.agg #[.int .i64 K, .int .i64 d, .int .i64 (0 : Int), .slice none 0 0, .string a3, .string (⟨#[]⟩ : ByteArray)]] ?_; refine (impl_CallOK.calls k K d (0 : Int) none 0 ([] : List Int) a3 (⟨#[]⟩ : ByteArray) _ _ (Kd.R_reads' (Kd.R_nil (Kd.int .i64) 3 _ w.heap.size (fun _ => True))).2.2 (Nat.le_refl 0) HXo.out).mono ?_; rintro e w17_ ⟨rfl, hb⟩; refine ⟨_, rfl, ?_⟩; replace BKb2 := lB BKb2 hb; replace BKb5 := lB BKb5 hb; replace BKb7 := lB BKb7 hb; replace HB := lS HB hb; clear hb; obtain ⟨hz66_0, hz66_1, hz66_2, hz66_3, hz66_4, hz66_5⟩ := cS6 BKb7; have hf66_ := fz BKb7) | ((with_reducible refine gate_dst (N := 67) rfl ?_); (try (refine gate_guard (by rfl) ?_; dsimp only)); (with_reducible refine gate_callee (f := 34) rfl ?_); refine goM (some 67) Tryz.func34 #[.agg #[.int .i64 K, .int .i64 d, .int .i64 (0 : Int), .slice none 0 0, .string a3, .string (⟨#[]⟩ : ByteArray)]] ?_; refine (impl_callText.calls k K d (0 : Int) none 0 ([] : List Int) a3 (⟨#[]⟩ : ByteArray) ct _ (HG.out.below HB.out) (Kd.R_reads' (Kd.R_nil (Kd.int .i64) 3 _ w.heap.size (fun _ => True))).2.2 (Nat.le_refl 0) HXt.out).mono ?_; rintro e w18_ ⟨rfl, hb⟩; refine ⟨_, rfl, ?_⟩; replace BKb2 := lB BKb2 hb; replace BKb5 := lB BKb5 hb; replace BKb7 := lB BKb7 hb; replace HB := lS HB hb; clear hb) | ((with_reducible refine gate_store (p := 2) rfl ?_); refine store_event rfl rfl (w1 := ?w19_n4) ?w19_r4 ?_; (case w19_r4 => (obtain ⟨hz0, hz1, hz2, hz3, hz4, hz5⟩ := cS6 BKb2; have hf := fz BKb2; go_simp; rfl)); generalize hW : World.setCell _ ⟨b2, 5, none⟩ _ = w20_; replace BKb5 := fS6 hW BKb5 Nb5b2; replace BKb7 := fS6 hW BKb7 Nb7b2; replace BKb2 := pS6 hW BKb2; replace HB := sS6 hW HB GEb2; clear hW))
   refine bodyPost_ret (results_ct rfl _ _ b2 24 #[.int .i64 0, .int .i64 0, .int .i64 0, .slice none 0 0, .string (⟨#[]⟩ : ByteArray), .string (⟨#[]⟩ : ByteArray)] (0, 0) _ rfl BKb2.out Tryz.underlying24 rfl (by kernel_rfl)) rfl ?_
   exact ⟨_, rfl, Kd.R_nil _ _ _ _ _, HB.out⟩
set_option maxHeartbeats 4000000 in
set_option maxRecDepth 100000 in
theorem rc_ttff (k : Nat) (t : ByteArray) (K : Int) (a0 r0 : ByteArray) (x0 : Bool) (v1 v2 v3 : Int) (v4 : List Int) (v5 v6 : ByteArray) (v7 : Bool) (w : World) (gw : GW w) (h0 : strings_Cut.f t sp = some (a0, r0, x0)) (hK : slices_Index_string_string.f k W10 a0 = some K) (hge : ¬ K < 1)
  (hp : impl_hasPath.f K = some true) (hn : impl_hasName.f K = some true) (hc : impl_hasConfig.f K = some false) (hx : impl_hasText.f K = some false) (h : tailI k t K r0 true true false false = some (v1, v2, v3, v4, v5, v6, v7)) :
  Calls Tryz.prog 11 #[.string t] w fun e w' => ∃ v_ : Value, e = .returned (.tuple #[.agg #[.int .i64 v1, .int .i64 v2, .int .i64 v3, v_, .string v5, .string v6], .bool v7]) ∧ Kd.R (Kd.int .i64) 3 w' w.heap.size (fun _ => True) v_ v4 ∧ Below w.heap.size w w' := by
 have hu24 := Tryz.underlying24
 have eg := enters_of Tryz.func26 (by kernel_rfl) rfl
 have HG := Aside0.mk gw
 have HB := Aside0.mk (Below.refl w.heap.size w)
 have HX0 := Aside0.mk h0
 have HXK := Aside0.mk hK
 have HP := Aside0.mk hp
 have HN := Aside0.mk hn
 have HC := Aside0.mk hc
 have HT := Aside0.mk hx
 have d1 : decide (K < 1) = false := decide_eq_false hge
 clear gw h0 hK hp hn hc hx hge
 unfold tailI at h
 obtain ⟨⟨a1, r1, x1⟩, e1, h⟩ := Option.bind_eq_some_iff.1 h
 obtain ⟨⟨d, bd⟩, e2, h⟩ := Option.bind_eq_some_iff.1 h
 have HX1 := Aside0.mk e1
 have HXd := Aside0.mk e2
 clear e1 e2
 obtain ⟨⟨y1, y2⟩, e3, h⟩ := Option.bind_eq_some_iff.1 h
 rw [if_pos rfl] at e3
 obtain ⟨⟨a2, r2, x2⟩, e4, e3⟩ := Option.bind_eq_some_iff.1 e3
 obtain ⟨⟨q, bq⟩, e5, e3⟩ := Option.bind_eq_some_iff.1 e3
 simp only [Option.some.injEq, Prod.mk.injEq] at e3
 obtain ⟨rfl, rfl⟩ := e3
 have HX2 := Aside0.mk e4
 have HXq := Aside0.mk e5
 clear e4 e5
 obtain ⟨⟨z1, z2⟩, e6, h⟩ := Option.bind_eq_some_iff.1 h
 rw [if_pos rfl] at e6
 obtain ⟨⟨a3, r3, x3⟩, e7, e6⟩ := Option.bind_eq_some_iff.1 e6
 simp only [Option.some.injEq, Prod.mk.injEq] at e6
 obtain ⟨rfl, rfl⟩ := e6
 have HX3 := Aside0.mk e7
 clear e7
 obtain ⟨⟨u1, u2⟩, e8, h⟩ := Option.bind_eq_some_iff.1 h
 rw [if_neg (by decide)] at e8
 simp only [Option.some.injEq, Prod.mk.injEq] at e8
 obtain ⟨rfl, rfl⟩ := e8
 obtain ⟨ok, e11, h⟩ := Option.bind_eq_some_iff.1 h
 simp only [Bool.false_eq_true, if_false] at e11 h
 have HXo := Aside0.mk e11
 clear e11
 have HH := Aside0.mk h
 clear h
 go_enter Tryz.func11, Tryz.ntmps11
 go_upto_region 15 with (first | ((with_reducible refine gate_dst (N := 2) rfl ?_); refine box_event ?hg (N := 2) ?hd (cs := #[.int .i64 0, .int .i64 0, .int .i64 0, .slice none 0 0, .string (⟨#[]⟩ : ByteArray), .string (⟨#[]⟩ : ByteArray)]) (t := 24) ?hr ?_; (case hd => rfl); (case hg => rfl); (case hr => first | (go_simp; done) | (go_simp; rfl)); intro b2 hg w1_ hbox hb; have GEb2 := gE hg HB; replace HB := lS HB hb; have BKb2 := Aside0.mk hbox; clear hb hbox hg) | ((with_reducible refine gate_callee (f := 23) rfl ?_); refine goM (some 11) Tryz.func23 #[.string t, .string sp] ?_; refine (strings_Cut.calls t sp a0 r0 x0 _ (HG.out.below HB.out) HX0.out).mono ?_; rintro e w2_ ⟨rfl, hb⟩; refine ⟨_, rfl, ?_⟩; replace BKb2 := lB BKb2 hb; replace HB := lS HB hb; clear hb) | ((with_reducible refine gate_dst (N := 5) rfl ?_); refine box_event ?hg (N := 5) ?hd (cs := #[.string (⟨#[]⟩ : ByteArray)]) (t := 9) ?hr ?_; (case hd => rfl); (case hg => rfl); (case hr => first | (go_simp; done) | (go_simp; rfl)); intro b5 hg w3_ hbox hb; have Nb2b5 := nL hg BKb2; have Nb5b2 := nG hg BKb2; have GEb5 := gE hg HB; replace BKb2 := lB BKb2 hb; replace HB := lS HB hb; have BKb5 := Aside0.mk hbox; clear hb hbox hg) | ((with_reducible refine gate_store (p := 5) rfl ?_); refine store_event rfl rfl (w1 := ?w4_n5) ?w4_r5 ?_; (case w4_r5 => (have hz := cel BKb5 0 rfl; have hf := fz BKb5; go_simp; rfl)); generalize hW : World.setCell _ ⟨b5, 0, none⟩ _ = w5_; replace BKb2 := fS1 hW BKb2 Nb2b5; replace BKb5 := pS1 (cs' := #[.string r0]) hW BKb5 rfl; replace HB := sS1 hW HB GEb5; clear hW) | ((with_reducible refine gate_callee (f := 25) rfl ?_); refine goM (some 15) Tryz.func25 #[] ?_; refine (impl_callWords.calls W10 _ W10_is).mono ?_; rintro e w6_ ⟨vw_, rfl, ho0, hb⟩; refine ⟨_, rfl, ?_⟩; have nw_ := Aside0.mk (Kd.R_lower ho0 (below_size HB.out)); clear ho0; replace BKb2 := lB BKb2 hb; replace BKb5 := lB BKb5 hb; replace HB := lS HB hb; clear hb; have HW := nw_; clear nw_; obtain ⟨Aw, cw, ew⟩ := Kd.R_slice HW.out; subst ew) | ((with_reducible refine gate_callee (f := 24) rfl ?_); refine goM (some 17) Tryz.func24 #[.slice Aw W10.length cw, .string a0] ?_; refine (slices_Index_string_string.calls k _ _ W10 a0 K _ (Kd.R_reads' HW.out).2.2 (Kd.R_reads' HW.out).2.1 HXK.out).mono ?_; rintro e w' ⟨rfl, hd⟩; refine ⟨_, rfl, ?_⟩; have hb := Go.Proofs.YtfjnlliilnmfaaaGreatDoor.RF.drawn_below hd; clear hd; replace BKb2 := lB BKb2 hb; replace BKb5 := lB BKb5 hb; replace HW := lR HW hb; replace HB := lS HB hb; clear hb) | ((with_reducible refine gate_dst (N := 7) rfl ?_); refine box_event ?hg (N := 7) ?hd (cs := #[.int .i64 0, .int .i64 0, .int .i64 0, .slice none 0 0, .string (⟨#[]⟩ : ByteArray), .string (⟨#[]⟩ : ByteArray)]) (t := 24) ?hr ?_; (case hd => rfl); (case hg => rfl); (case hr => first | (go_simp; done) | (go_simp; rfl)); intro b7 hg w7_ hbox hb; have Nb2b7 := nL hg BKb2; have Nb7b2 := nG hg BKb2; have Nb5b7 := nL hg BKb5; have Nb7b5 := nG hg BKb5; have GEb7 := gE hg HB; replace BKb2 := lB BKb2 hb; replace BKb5 := lB BKb5 hb; replace HB := lS HB hb; have BKb7 := Aside0.mk hbox; clear hb hbox hg) | ((with_reducible refine gate_store (p := 7) rfl ?_); refine store_event rfl rfl (w1 := ?w8_n5) ?w8_r5 ?_; (case w8_r5 => (obtain ⟨hz0, hz1, hz2, hz3, hz4, hz5⟩ := cS6 BKb7; have hf := fz BKb7; go_simp; rfl)); generalize hW : World.setCell _ ⟨b7, 5, none⟩ _ = w9_; replace BKb2 := fS6 hW BKb2 Nb2b7; replace BKb5 := fS6 hW BKb5 Nb5b7; replace BKb7 := pS6 hW BKb7; replace HB := sS6 hW HB GEb7; clear hW; obtain ⟨hz20_0, hz20_1, hz20_2, hz20_3, hz20_4, hz20_5⟩ := cS6 BKb7; have hf20_ := fz BKb7) | ((with_reducible refine gate_dst (N := 26) rfl ?_); refine goesV_ (p := 25) (some 26) rfl rfl Tryz.func26 (by kernel_rfl) rfl #[.pointer (some ⟨b5, 0, none⟩)] rfl rfl ?_; refine (next_calls (HG.out.below HB.out) HX1.out BKb5.out).mono ?_; rintro e w10_ ⟨rfl, h5, hg⟩; refine ⟨_, rfl, ?_⟩; replace BKb2 := lG BKb2 hg Nb2b5; replace BKb7 := lG BKb7 hg Nb7b5; replace BKb5 := Aside0.mk h5; replace HB := gS HB hg GEb5; clear h5 hg) | ((with_reducible refine gate_callee (f := 27) rfl ?_); refine goM (some 27) Tryz.func27 #[.string a1] ?_; refine (impl_number.calls a1 d bd _ (HG.out.below HB.out) HXd.out).mono ?_; rintro e w11_ ⟨rfl, hb⟩; refine ⟨_, rfl, ?_⟩; replace BKb2 := lB BKb2 hb; replace BKb5 := lB BKb5 hb; replace BKb7 := lB BKb7 hb; replace HB := lS HB hb; clear hb) | ((with_reducible refine gate_store (p := 30) rfl ?_); refine store_event rfl rfl (w1 := ?w12_n5) ?w12_r5 ?_; (case w12_r5 => (have hz := cel BKb7 1 rfl; have hf := fz BKb7; go_simp; rfl)); generalize hW : World.setCell _ ⟨b7, 1, none⟩ _ = w13_; replace BKb2 := fS1 hW BKb2 Nb2b7; replace BKb5 := fS1 hW BKb5 Nb5b7; replace BKb7 := pS1 (cs' := #[.int .i64 K, .int .i64 d, .int .i64 0, .slice none 0 0, .string (⟨#[]⟩ : ByteArray), .string (⟨#[]⟩ : ByteArray)]) hW BKb7 rfl; replace HB := sS1 hW HB GEb7; clear hW; obtain ⟨hz32_0, hz32_1, hz32_2, hz32_3, hz32_4, hz32_5⟩ := cS6 BKb7; have hf32_ := fz BKb7) | ((with_reducible refine gate_callee (f := 28) rfl ?_); refine goM (some 33) Tryz.func28 #[.int .i64 K] ?_; refine (impl_hasPath.calls K _ _ HP.out).mono ?_; rintro e w' ⟨rfl, hd⟩; refine ⟨_, rfl, ?_⟩; have hb := Go.Proofs.YtfjnlliilnmfaaaGreatDoor.RF.drawn_below hd; clear hd; replace BKb2 := lB BKb2 hb; replace BKb5 := lB BKb5 hb; replace BKb7 := lB BKb7 hb; replace HB := lS HB hb; clear hb) | ((with_reducible refine gate_dst (N := 36) rfl ?_); refine goesV_ (p := 35) (some 36) rfl rfl Tryz.func26 (by kernel_rfl) rfl #[.pointer (some ⟨b5, 0, none⟩)] rfl rfl ?_; refine (next_calls (HG.out.below HB.out) HX2.out BKb5.out).mono ?_; rintro e w14_ ⟨rfl, h5, hg⟩; refine ⟨_, rfl, ?_⟩; replace BKb2 := lG BKb2 hg Nb2b5; replace BKb7 := lG BKb7 hg Nb7b5; replace BKb5 := Aside0.mk h5; replace HB := gS HB hg GEb5; clear h5 hg) | ((with_reducible refine gate_callee (f := 29) rfl ?_); refine goM (some 37) Tryz.func29 #[.string a2] ?_; refine (impl_readPath.calls k a2 q bq _ (HG.out.below HB.out) HXq.out).mono ?_; rintro e w15_ ⟨vq_, rfl, ho0, hb⟩; refine ⟨_, rfl, ?_⟩; have nq_ := Aside0.mk (Kd.R_lower ho0 (below_size HB.out)); clear ho0; replace BKb2 := lB BKb2 hb; replace BKb5 := lB BKb5 hb; replace BKb7 := lB BKb7 hb; replace HB := lS HB hb; clear hb; have HQ := nq_; clear nq_; obtain ⟨Aq, cq, eq_⟩ := Kd.R_slice HQ.out; subst eq_) | ((with_reducible refine gate_store (p := 40) rfl ?_); refine store_event rfl rfl (w1 := ?w16_n5) ?w16_r5 ?_; (case w16_r5 => (have hz := cel BKb7 3 rfl; have hf := fz BKb7; go_simp; rfl)); generalize hW : World.setCell _ ⟨b7, 3, none⟩ _ = w17_; replace BKb2 := fS1 hW BKb2 Nb2b7; replace BKb5 := fS1 hW BKb5 Nb5b7; replace HQ := rS1 hW HQ BKb7 (by decide); replace BKb7 := pS1 (cs' := #[.int .i64 K, .int .i64 d, .int .i64 0, .slice Aq q.length cq, .string (⟨#[]⟩ : ByteArray), .string (⟨#[]⟩ : ByteArray)]) hW BKb7 rfl; replace HB := sS1 hW HB GEb7; clear hW; obtain ⟨hz42_0, hz42_1, hz42_2, hz42_3, hz42_4, hz42_5⟩ := cS6 BKb7; have hf42_ := fz BKb7) | ((with_reducible refine gate_callee (f := 30) rfl ?_); refine goM (some 43) Tryz.func30 #[.int .i64 K] ?_; refine (impl_hasName.calls K _ _ HN.out).mono ?_; rintro e w' ⟨rfl, hd⟩; refine ⟨_, rfl, ?_⟩; have hb := Go.Proofs.YtfjnlliilnmfaaaGreatDoor.RF.drawn_below hd; clear hd; replace BKb2 := lB BKb2 hb; replace BKb5 := lB BKb5 hb; replace BKb7 := lB BKb7 hb; replace HQ := lR HQ hb; replace HB := lS HB hb; clear hb) | ((with_reducible refine gate_dst (N := 45) rfl ?_); refine goesV_ (p := 44) (some 45) rfl rfl Tryz.func26 (by kernel_rfl) rfl #[.pointer (some ⟨b5, 0, none⟩)] rfl rfl ?_; refine (next_calls (HG.out.below HB.out) HX3.out BKb5.out).mono ?_; rintro e w18_ ⟨rfl, h5, hg⟩; refine ⟨_, rfl, ?_⟩; replace BKb2 := lG BKb2 hg Nb2b5; replace BKb7 := lG BKb7 hg Nb7b5; replace HQ := lQ HQ hg BKb5 (by decide); replace BKb5 := Aside0.mk h5; replace HB := gS HB hg GEb5; clear h5 hg) | ((with_reducible refine gate_store (p := 46) rfl ?_); refine store_event rfl rfl (w1 := ?w19_n5) ?w19_r5 ?_; (case w19_r5 => (have hz := cel BKb7 4 rfl; have hf := fz BKb7; go_simp; rfl)); generalize hW : World.setCell _ ⟨b7, 4, none⟩ _ = w20_; replace BKb2 := fS1 hW BKb2 Nb2b7; replace BKb5 := fS1 hW BKb5 Nb5b7; replace HQ := rS1 hW HQ BKb7 (by decide); replace BKb7 := pS1 (cs' := #[.int .i64 K, .int .i64 d, .int .i64 0, .slice Aq q.length cq, .string a3, .string (⟨#[]⟩ : ByteArray)]) hW BKb7 rfl; replace HB := sS1 hW HB GEb7; clear hW; obtain ⟨hz48_0, hz48_1, hz48_2, hz48_3, hz48_4, hz48_5⟩ := cS6 BKb7; have hf48_ := fz BKb7) | ((with_reducible refine gate_callee (f := 31) rfl ?_); refine goM (some 49) Tryz.func31 #[.int .i64 K] ?_; refine (impl_hasConfig.calls K _ _ HC.out).mono ?_; rintro e w' ⟨rfl, hd⟩; refine ⟨_, rfl, ?_⟩; have hb := Go.Proofs.YtfjnlliilnmfaaaGreatDoor.RF.drawn_below hd; clear hd; replace BKb2 := lB BKb2 hb; replace BKb5 := lB BKb5 hb; replace BKb7 := lB BKb7 hb; replace HQ := lR HQ hb; replace HB := lS HB hb; clear hb; obtain ⟨hz58_0, hz58_1, hz58_2, hz58_3, hz58_4, hz58_5⟩ := cS6 BKb7; have hf58_ := fz BKb7) | ((with_reducible refine gate_callee (f := 32) rfl ?_); refine goM (some 59) Tryz.func32 #[.int .i64 K] ?_; refine (impl_hasText.calls K _ _ HT.out).mono ?_; rintro e w' ⟨rfl, hd⟩; refine ⟨_, rfl, ?_⟩; have hb := Go.Proofs.YtfjnlliilnmfaaaGreatDoor.RF.drawn_below hd; clear hd; replace BKb2 := lB BKb2 hb; replace BKb5 := lB BKb5 hb; replace BKb7 := lB BKb7 hb; replace HQ := lR HQ hb; replace HB := lS HB hb; clear hb; obtain ⟨hz62_0, hz62_1, hz62_2, hz62_3, hz62_4, hz62_5⟩ := cS6 BKb7; have hf62_ := fz BKb7))
 have h := HH.out
 clear HH
 cases ok
 case false =>
  simp only [Bool.false_eq_true, if_false, Option.some.injEq, Prod.mk.injEq] at h
  obtain ⟨rfl, rfl, rfl, rfl, rfl, rfl, rfl⟩ := h
  go_wp2_with (first | ((with_reducible refine gate_callee (f := 33) rfl ?_); refine goM (some 63) Tryz.func33 #[.agg #[.int .i64 K, .int .i64 d, .int .i64 (0 : Int), .slice Aq q.length cq, .string a3, .string (⟨#[]⟩ : ByteArray)]] ?_; refine (impl_CallOK.calls k K d (0 : Int) Aq cq q a3 (⟨#[]⟩ : ByteArray) _ _ (Kd.R_reads' HQ.out).2.2 (Kd.R_reads' HQ.out).2.1 HXo.out).mono ?_; rintro e w21_ ⟨rfl, hb⟩; refine ⟨_, rfl, ?_⟩; replace BKb2 := lB BKb2 hb; replace BKb5 := lB BKb5 hb; replace BKb7 := lB BKb7 hb; replace HQ := lR HQ hb; replace HB := lS HB hb; clear hb) | ((with_reducible refine gate_store (p := 2) rfl ?_); refine store_event rfl rfl (w1 := ?w22_n6) ?w22_r6 ?_; (case w22_r6 => (obtain ⟨hz0, hz1, hz2, hz3, hz4, hz5⟩ := cS6 BKb2; have hf := fz BKb2; go_simp; rfl)); generalize hW : World.setCell _ ⟨b2, 5, none⟩ _ = w23_; replace BKb5 := fS6 hW BKb5 Nb5b2; replace BKb7 := fS6 hW BKb7 Nb7b2; replace HQ := rS6 hW HQ BKb2 (by decide); replace BKb2 := pS6 hW BKb2; replace HB := sS6 hW HB GEb2; clear hW))
  refine bodyPost_ret (results_ct rfl _ _ b2 24 #[.int .i64 0, .int .i64 0, .int .i64 0, .slice none 0 0, .string (⟨#[]⟩ : ByteArray), .string (⟨#[]⟩ : ByteArray)] (0, 0) _ rfl BKb2.out Tryz.underlying24 rfl (by kernel_rfl)) rfl ?_
  exact ⟨_, rfl, Kd.R_nil _ _ _ _ _, HB.out⟩
 case true =>
  rw [if_pos rfl] at h
  obtain ⟨ct, e12, h⟩ := Option.bind_eq_some_iff.1 h
  have HXt := Aside0.mk e12
  clear e12
  by_cases hct : ct.toList = t.toList
  ·rw [if_pos hct] at h
   have t1 : (ct.toList != t.toList) = false := by rw [hct]; simp
   have t2 : (ct.toList == t.toList) = true := by rw [hct]; simp
   clear hct
   simp only [Option.some.injEq, Prod.mk.injEq] at h
   obtain ⟨rfl, rfl, rfl, rfl, rfl, rfl, rfl⟩ := h
   go_wp2_with (first | ((with_reducible refine gate_callee (f := 33) rfl ?_); refine goM (some 63) Tryz.func33 #[.agg #[.int .i64 K, .int .i64 d, .int .i64 (0 : Int), .slice Aq q.length cq, .string a3, .string (⟨#[]⟩ : ByteArray)]] ?_; refine (impl_CallOK.calls k K d (0 : Int) Aq cq q a3 (⟨#[]⟩ : ByteArray) _ _ (Kd.R_reads' HQ.out).2.2 (Kd.R_reads' HQ.out).2.1 HXo.out).mono ?_; rintro e w21_ ⟨rfl, hb⟩; refine ⟨_, rfl, ?_⟩; replace BKb2 := lB BKb2 hb; replace BKb5 := lB BKb5 hb; replace BKb7 := lB BKb7 hb; replace HQ := lR HQ hb; replace HB := lS HB hb; clear hb; obtain ⟨hz66_0, hz66_1, hz66_2, hz66_3, hz66_4, hz66_5⟩ := cS6 BKb7; have hf66_ := fz BKb7) | ((with_reducible refine gate_dst (N := 67) rfl ?_); (try (refine gate_guard (by rfl) ?_; dsimp only)); (with_reducible refine gate_callee (f := 34) rfl ?_); refine goM (some 67) Tryz.func34 #[.agg #[.int .i64 K, .int .i64 d, .int .i64 (0 : Int), .slice Aq q.length cq, .string a3, .string (⟨#[]⟩ : ByteArray)]] ?_; refine (impl_callText.calls k K d (0 : Int) Aq cq q a3 (⟨#[]⟩ : ByteArray) ct _ (HG.out.below HB.out) (Kd.R_reads' HQ.out).2.2 (Kd.R_reads' HQ.out).2.1 HXt.out).mono ?_; rintro e w22_ ⟨rfl, hb⟩; refine ⟨_, rfl, ?_⟩; replace BKb2 := lB BKb2 hb; replace BKb5 := lB BKb5 hb; replace BKb7 := lB BKb7 hb; replace HQ := lR HQ hb; replace HB := lS HB hb; clear hb; obtain ⟨hz72_0, hz72_1, hz72_2, hz72_3, hz72_4, hz72_5⟩ := cS6 BKb7; have hf72_ := fz BKb7) | ((with_reducible refine gate_store (p := 2) rfl ?_); refine store_event rfl rfl (w1 := ?w23_n7) ?w23_r7 ?_; (case w23_r7 => (obtain ⟨hz0, hz1, hz2, hz3, hz4, hz5⟩ := cS6 BKb2; have hf := fz BKb2; go_simp; rfl)); generalize hW : World.setCell _ ⟨b2, 5, none⟩ _ = w24_; replace BKb5 := fS6 hW BKb5 Nb5b2; replace BKb7 := fS6 hW BKb7 Nb7b2; replace HQ := rS6 hW HQ BKb2 (by decide); replace BKb2 := pS6 hW BKb2; replace HB := sS6 hW HB GEb2; clear hW))
   refine bodyPost_ret (results_ct rfl _ _ b2 24 #[.int .i64 K, .int .i64 d, .int .i64 (0 : Int), .slice Aq q.length cq, .string a3, .string (⟨#[]⟩ : ByteArray)] (0, 0) _ rfl BKb2.out Tryz.underlying24 rfl (by kernel_rfl)) rfl ?_
   exact ⟨_, rfl, HQ.out, HB.out⟩
  ·rw [if_neg hct] at h
   have t1 : (ct.toList != t.toList) = true := by simpa using hct
   have t2 : (ct.toList == t.toList) = false := by simpa using hct
   clear hct
   simp only [Option.some.injEq, Prod.mk.injEq] at h
   obtain ⟨rfl, rfl, rfl, rfl, rfl, rfl, rfl⟩ := h
   go_wp2_with (first | ((with_reducible refine gate_callee (f := 33) rfl ?_); refine goM (some 63) Tryz.func33 #[.agg #[.int .i64 K, .int .i64 d, .int .i64 (0 : Int), .slice Aq q.length cq, .string a3, .string (⟨#[]⟩ : ByteArray)]] ?_; refine (impl_CallOK.calls k K d (0 : Int) Aq cq q a3 (⟨#[]⟩ : ByteArray) _ _ (Kd.R_reads' HQ.out).2.2 (Kd.R_reads' HQ.out).2.1 HXo.out).mono ?_; rintro e w21_ ⟨rfl, hb⟩; refine ⟨_, rfl, ?_⟩; replace BKb2 := lB BKb2 hb; replace BKb5 := lB BKb5 hb; replace BKb7 := lB BKb7 hb; replace HQ := lR HQ hb; replace HB := lS HB hb; clear hb; obtain ⟨hz66_0, hz66_1, hz66_2, hz66_3, hz66_4, hz66_5⟩ := cS6 BKb7; have hf66_ := fz BKb7) | ((with_reducible refine gate_dst (N := 67) rfl ?_); (try (refine gate_guard (by rfl) ?_; dsimp only)); (with_reducible refine gate_callee (f := 34) rfl ?_); refine goM (some 67) Tryz.func34 #[.agg #[.int .i64 K, .int .i64 d, .int .i64 (0 : Int), .slice Aq q.length cq, .string a3, .string (⟨#[]⟩ : ByteArray)]] ?_; refine (impl_callText.calls k K d (0 : Int) Aq cq q a3 (⟨#[]⟩ : ByteArray) ct _ (HG.out.below HB.out) (Kd.R_reads' HQ.out).2.2 (Kd.R_reads' HQ.out).2.1 HXt.out).mono ?_; rintro e w22_ ⟨rfl, hb⟩; refine ⟨_, rfl, ?_⟩; replace BKb2 := lB BKb2 hb; replace BKb5 := lB BKb5 hb; replace BKb7 := lB BKb7 hb; replace HQ := lR HQ hb; replace HB := lS HB hb; clear hb) | ((with_reducible refine gate_store (p := 2) rfl ?_); refine store_event rfl rfl (w1 := ?w23_n8) ?w23_r8 ?_; (case w23_r8 => (obtain ⟨hz0, hz1, hz2, hz3, hz4, hz5⟩ := cS6 BKb2; have hf := fz BKb2; go_simp; rfl)); generalize hW : World.setCell _ ⟨b2, 5, none⟩ _ = w24_; replace BKb5 := fS6 hW BKb5 Nb5b2; replace BKb7 := fS6 hW BKb7 Nb7b2; replace HQ := rS6 hW HQ BKb2 (by decide); replace BKb2 := pS6 hW BKb2; replace HB := sS6 hW HB GEb2; clear hW))
   refine bodyPost_ret (results_ct rfl _ _ b2 24 #[.int .i64 0, .int .i64 0, .int .i64 0, .slice none 0 0, .string (⟨#[]⟩ : ByteArray), .string (⟨#[]⟩ : ByteArray)] (0, 0) _ rfl BKb2.out Tryz.underlying24 rfl (by kernel_rfl)) rfl ?_
   exact ⟨_, rfl, Kd.R_nil _ _ _ _ _, HB.out⟩
set_option maxHeartbeats 4000000 in
set_option maxRecDepth 100000 in
theorem rc_tfft (k : Nat) (t : ByteArray) (K : Int) (a0 r0 : ByteArray) (x0 : Bool) (v1 v2 v3 : Int) (v4 : List Int) (v5 v6 : ByteArray) (v7 : Bool) (w : World) (gw : GW w) (h0 : strings_Cut.f t sp = some (a0, r0, x0)) (hK : slices_Index_string_string.f k W10 a0 = some K) (hge : ¬ K < 1)
  (hp : impl_hasPath.f K = some true) (hn : impl_hasName.f K = some false) (hc : impl_hasConfig.f K = some false) (hx : impl_hasText.f K = some true) (h : tailI k t K r0 true false false true = some (v1, v2, v3, v4, v5, v6, v7)) :
  Calls Tryz.prog 11 #[.string t] w fun e w' => ∃ v_ : Value, e = .returned (.tuple #[.agg #[.int .i64 v1, .int .i64 v2, .int .i64 v3, v_, .string v5, .string v6], .bool v7]) ∧ Kd.R (Kd.int .i64) 3 w' w.heap.size (fun _ => True) v_ v4 ∧ Below w.heap.size w w' := by
 have hu24 := Tryz.underlying24
 have eg := enters_of Tryz.func26 (by kernel_rfl) rfl
 have HG := Aside0.mk gw
 have HB := Aside0.mk (Below.refl w.heap.size w)
 have HX0 := Aside0.mk h0
 have HXK := Aside0.mk hK
 have HP := Aside0.mk hp
 have HN := Aside0.mk hn
 have HC := Aside0.mk hc
 have HT := Aside0.mk hx
 have d1 : decide (K < 1) = false := decide_eq_false hge
 clear gw h0 hK hp hn hc hx hge
 unfold tailI at h
 obtain ⟨⟨a1, r1, x1⟩, e1, h⟩ := Option.bind_eq_some_iff.1 h
 obtain ⟨⟨d, bd⟩, e2, h⟩ := Option.bind_eq_some_iff.1 h
 have HX1 := Aside0.mk e1
 have HXd := Aside0.mk e2
 clear e1 e2
 obtain ⟨⟨y1, y2⟩, e3, h⟩ := Option.bind_eq_some_iff.1 h
 rw [if_pos rfl] at e3
 obtain ⟨⟨a2, r2, x2⟩, e4, e3⟩ := Option.bind_eq_some_iff.1 e3
 obtain ⟨⟨q, bq⟩, e5, e3⟩ := Option.bind_eq_some_iff.1 e3
 simp only [Option.some.injEq, Prod.mk.injEq] at e3
 obtain ⟨rfl, rfl⟩ := e3
 have HX2 := Aside0.mk e4
 have HXq := Aside0.mk e5
 clear e4 e5
 obtain ⟨⟨z1, z2⟩, e6, h⟩ := Option.bind_eq_some_iff.1 h
 rw [if_neg (by decide)] at e6
 simp only [Option.some.injEq, Prod.mk.injEq] at e6
 obtain ⟨rfl, rfl⟩ := e6
 obtain ⟨⟨u1, u2⟩, e8, h⟩ := Option.bind_eq_some_iff.1 h
 rw [if_neg (by decide)] at e8
 simp only [Option.some.injEq, Prod.mk.injEq] at e8
 obtain ⟨rfl, rfl⟩ := e8
 obtain ⟨ok, e11, h⟩ := Option.bind_eq_some_iff.1 h
 simp only [if_true] at e11 h
 have HXo := Aside0.mk e11
 clear e11
 have HH := Aside0.mk h
 clear h
 go_enter Tryz.func11, Tryz.ntmps11
 go_upto_region 15 with (first | ((with_reducible refine gate_dst (N := 2) rfl ?_); refine box_event ?hg (N := 2) ?hd (cs := #[.int .i64 0, .int .i64 0, .int .i64 0, .slice none 0 0, .string (⟨#[]⟩ : ByteArray), .string (⟨#[]⟩ : ByteArray)]) (t := 24) ?hr ?_; (case hd => rfl); (case hg => rfl); (case hr => first | (go_simp; done) | (go_simp; rfl)); intro b2 hg w1_ hbox hb; have GEb2 := gE hg HB; replace HB := lS HB hb; have BKb2 := Aside0.mk hbox; clear hb hbox hg) | ((with_reducible refine gate_callee (f := 23) rfl ?_); refine goM (some 11) Tryz.func23 #[.string t, .string sp] ?_; refine (strings_Cut.calls t sp a0 r0 x0 _ (HG.out.below HB.out) HX0.out).mono ?_; rintro e w2_ ⟨rfl, hb⟩; refine ⟨_, rfl, ?_⟩; replace BKb2 := lB BKb2 hb; replace HB := lS HB hb; clear hb) | ((with_reducible refine gate_dst (N := 5) rfl ?_); refine box_event ?hg (N := 5) ?hd (cs := #[.string (⟨#[]⟩ : ByteArray)]) (t := 9) ?hr ?_; (case hd => rfl); (case hg => rfl); (case hr => first | (go_simp; done) | (go_simp; rfl)); intro b5 hg w3_ hbox hb; have Nb2b5 := nL hg BKb2; have Nb5b2 := nG hg BKb2; have GEb5 := gE hg HB; replace BKb2 := lB BKb2 hb; replace HB := lS HB hb; have BKb5 := Aside0.mk hbox; clear hb hbox hg) | ((with_reducible refine gate_store (p := 5) rfl ?_); refine store_event rfl rfl (w1 := ?w4_n9) ?w4_r9 ?_; (case w4_r9 => (have hz := cel BKb5 0 rfl; have hf := fz BKb5; go_simp; rfl)); generalize hW : World.setCell _ ⟨b5, 0, none⟩ _ = w5_; replace BKb2 := fS1 hW BKb2 Nb2b5; replace BKb5 := pS1 (cs' := #[.string r0]) hW BKb5 rfl; replace HB := sS1 hW HB GEb5; clear hW) | ((with_reducible refine gate_callee (f := 25) rfl ?_); refine goM (some 15) Tryz.func25 #[] ?_; refine (impl_callWords.calls W10 _ W10_is).mono ?_; rintro e w6_ ⟨vw_, rfl, ho0, hb⟩; refine ⟨_, rfl, ?_⟩; have nw_ := Aside0.mk (Kd.R_lower ho0 (below_size HB.out)); clear ho0; replace BKb2 := lB BKb2 hb; replace BKb5 := lB BKb5 hb; replace HB := lS HB hb; clear hb; have HW := nw_; clear nw_; obtain ⟨Aw, cw, ew⟩ := Kd.R_slice HW.out; subst ew) | ((with_reducible refine gate_callee (f := 24) rfl ?_); refine goM (some 17) Tryz.func24 #[.slice Aw W10.length cw, .string a0] ?_; refine (slices_Index_string_string.calls k _ _ W10 a0 K _ (Kd.R_reads' HW.out).2.2 (Kd.R_reads' HW.out).2.1 HXK.out).mono ?_; rintro e w' ⟨rfl, hd⟩; refine ⟨_, rfl, ?_⟩; have hb := Go.Proofs.YtfjnlliilnmfaaaGreatDoor.RF.drawn_below hd; clear hd; replace BKb2 := lB BKb2 hb; replace BKb5 := lB BKb5 hb; replace HW := lR HW hb; replace HB := lS HB hb; clear hb) | ((with_reducible refine gate_dst (N := 7) rfl ?_); refine box_event ?hg (N := 7) ?hd (cs := #[.int .i64 0, .int .i64 0, .int .i64 0, .slice none 0 0, .string (⟨#[]⟩ : ByteArray), .string (⟨#[]⟩ : ByteArray)]) (t := 24) ?hr ?_; (case hd => rfl); (case hg => rfl); (case hr => first | (go_simp; done) | (go_simp; rfl)); intro b7 hg w7_ hbox hb; have Nb2b7 := nL hg BKb2; have Nb7b2 := nG hg BKb2; have Nb5b7 := nL hg BKb5; have Nb7b5 := nG hg BKb5; have GEb7 := gE hg HB; replace BKb2 := lB BKb2 hb; replace BKb5 := lB BKb5 hb; replace HB := lS HB hb; have BKb7 := Aside0.mk hbox; clear hb hbox hg) | ((with_reducible refine gate_store (p := 7) rfl ?_); refine store_event rfl rfl (w1 := ?w8_n9) ?w8_r9 ?_; (case w8_r9 => (obtain ⟨hz0, hz1, hz2, hz3, hz4, hz5⟩ := cS6 BKb7; have hf := fz BKb7; go_simp; rfl)); generalize hW : World.setCell _ ⟨b7, 5, none⟩ _ = w9_; replace BKb2 := fS6 hW BKb2 Nb2b7; replace BKb5 := fS6 hW BKb5 Nb5b7; replace BKb7 := pS6 hW BKb7; replace HB := sS6 hW HB GEb7; clear hW; obtain ⟨hz20_0, hz20_1, hz20_2, hz20_3, hz20_4, hz20_5⟩ := cS6 BKb7; have hf20_ := fz BKb7) | ((with_reducible refine gate_dst (N := 26) rfl ?_); refine goesV_ (p := 25) (some 26) rfl rfl Tryz.func26 (by kernel_rfl) rfl #[.pointer (some ⟨b5, 0, none⟩)] rfl rfl ?_; refine (next_calls (HG.out.below HB.out) HX1.out BKb5.out).mono ?_; rintro e w10_ ⟨rfl, h5, hg⟩; refine ⟨_, rfl, ?_⟩; replace BKb2 := lG BKb2 hg Nb2b5; replace BKb7 := lG BKb7 hg Nb7b5; replace BKb5 := Aside0.mk h5; replace HB := gS HB hg GEb5; clear h5 hg) | ((with_reducible refine gate_callee (f := 27) rfl ?_); refine goM (some 27) Tryz.func27 #[.string a1] ?_; refine (impl_number.calls a1 d bd _ (HG.out.below HB.out) HXd.out).mono ?_; rintro e w11_ ⟨rfl, hb⟩; refine ⟨_, rfl, ?_⟩; replace BKb2 := lB BKb2 hb; replace BKb5 := lB BKb5 hb; replace BKb7 := lB BKb7 hb; replace HB := lS HB hb; clear hb) | ((with_reducible refine gate_store (p := 30) rfl ?_); refine store_event rfl rfl (w1 := ?w12_n9) ?w12_r9 ?_; (case w12_r9 => (have hz := cel BKb7 1 rfl; have hf := fz BKb7; go_simp; rfl)); generalize hW : World.setCell _ ⟨b7, 1, none⟩ _ = w13_; replace BKb2 := fS1 hW BKb2 Nb2b7; replace BKb5 := fS1 hW BKb5 Nb5b7; replace BKb7 := pS1 (cs' := #[.int .i64 K, .int .i64 d, .int .i64 0, .slice none 0 0, .string (⟨#[]⟩ : ByteArray), .string (⟨#[]⟩ : ByteArray)]) hW BKb7 rfl; replace HB := sS1 hW HB GEb7; clear hW; obtain ⟨hz32_0, hz32_1, hz32_2, hz32_3, hz32_4, hz32_5⟩ := cS6 BKb7; have hf32_ := fz BKb7) | ((with_reducible refine gate_callee (f := 28) rfl ?_); refine goM (some 33) Tryz.func28 #[.int .i64 K] ?_; refine (impl_hasPath.calls K _ _ HP.out).mono ?_; rintro e w' ⟨rfl, hd⟩; refine ⟨_, rfl, ?_⟩; have hb := Go.Proofs.YtfjnlliilnmfaaaGreatDoor.RF.drawn_below hd; clear hd; replace BKb2 := lB BKb2 hb; replace BKb5 := lB BKb5 hb; replace BKb7 := lB BKb7 hb; replace HB := lS HB hb; clear hb) | ((with_reducible refine gate_dst (N := 36) rfl ?_); refine goesV_ (p := 35) (some 36) rfl rfl Tryz.func26 (by kernel_rfl) rfl #[.pointer (some ⟨b5, 0, none⟩)] rfl rfl ?_; refine (next_calls (HG.out.below HB.out) HX2.out BKb5.out).mono ?_; rintro e w14_ ⟨rfl, h5, hg⟩; refine ⟨_, rfl, ?_⟩; replace BKb2 := lG BKb2 hg Nb2b5; replace BKb7 := lG BKb7 hg Nb7b5; replace BKb5 := Aside0.mk h5; replace HB := gS HB hg GEb5; clear h5 hg) | ((with_reducible refine gate_callee (f := 29) rfl ?_); refine goM (some 37) Tryz.func29 #[.string a2] ?_; refine (impl_readPath.calls k a2 q bq _ (HG.out.below HB.out) HXq.out).mono ?_; rintro e w15_ ⟨vq_, rfl, ho0, hb⟩; refine ⟨_, rfl, ?_⟩; have nq_ := Aside0.mk (Kd.R_lower ho0 (below_size HB.out)); clear ho0; replace BKb2 := lB BKb2 hb; replace BKb5 := lB BKb5 hb; replace BKb7 := lB BKb7 hb; replace HB := lS HB hb; clear hb; have HQ := nq_; clear nq_; obtain ⟨Aq, cq, eq_⟩ := Kd.R_slice HQ.out; subst eq_) | ((with_reducible refine gate_store (p := 40) rfl ?_); refine store_event rfl rfl (w1 := ?w16_n9) ?w16_r9 ?_; (case w16_r9 => (have hz := cel BKb7 3 rfl; have hf := fz BKb7; go_simp; rfl)); generalize hW : World.setCell _ ⟨b7, 3, none⟩ _ = w17_; replace BKb2 := fS1 hW BKb2 Nb2b7; replace BKb5 := fS1 hW BKb5 Nb5b7; replace HQ := rS1 hW HQ BKb7 (by decide); replace BKb7 := pS1 (cs' := #[.int .i64 K, .int .i64 d, .int .i64 0, .slice Aq q.length cq, .string (⟨#[]⟩ : ByteArray), .string (⟨#[]⟩ : ByteArray)]) hW BKb7 rfl; replace HB := sS1 hW HB GEb7; clear hW; obtain ⟨hz42_0, hz42_1, hz42_2, hz42_3, hz42_4, hz42_5⟩ := cS6 BKb7; have hf42_ := fz BKb7) | ((with_reducible refine gate_callee (f := 30) rfl ?_); refine goM (some 43) Tryz.func30 #[.int .i64 K] ?_; refine (impl_hasName.calls K _ _ HN.out).mono ?_; rintro e w' ⟨rfl, hd⟩; refine ⟨_, rfl, ?_⟩; have hb := Go.Proofs.YtfjnlliilnmfaaaGreatDoor.RF.drawn_below hd; clear hd; replace BKb2 := lB BKb2 hb; replace BKb5 := lB BKb5 hb; replace BKb7 := lB BKb7 hb; replace HQ := lR HQ hb; replace HB := lS HB hb; clear hb; obtain ⟨hz48_0, hz48_1, hz48_2, hz48_3, hz48_4, hz48_5⟩ := cS6 BKb7; have hf48_ := fz BKb7) | ((with_reducible refine gate_callee (f := 31) rfl ?_); refine goM (some 49) Tryz.func31 #[.int .i64 K] ?_; refine (impl_hasConfig.calls K _ _ HC.out).mono ?_; rintro e w' ⟨rfl, hd⟩; refine ⟨_, rfl, ?_⟩; have hb := Go.Proofs.YtfjnlliilnmfaaaGreatDoor.RF.drawn_below hd; clear hd; replace BKb2 := lB BKb2 hb; replace BKb5 := lB BKb5 hb; replace BKb7 := lB BKb7 hb; replace HQ := lR HQ hb; replace HB := lS HB hb; clear hb; obtain ⟨hz58_0, hz58_1, hz58_2, hz58_3, hz58_4, hz58_5⟩ := cS6 BKb7; have hf58_ := fz BKb7) | ((with_reducible refine gate_callee (f := 32) rfl ?_); refine goM (some 59) Tryz.func32 #[.int .i64 K] ?_; refine (impl_hasText.calls K _ _ HT.out).mono ?_; rintro e w' ⟨rfl, hd⟩; refine ⟨_, rfl, ?_⟩; have hb := Go.Proofs.YtfjnlliilnmfaaaGreatDoor.RF.drawn_below hd; clear hd; replace BKb2 := lB BKb2 hb; replace BKb5 := lB BKb5 hb; replace BKb7 := lB BKb7 hb; replace HQ := lR HQ hb; replace HB := lS HB hb; clear hb; have hz60_0 := cel BKb5 0 rfl; have hf60_ := fz BKb5) | ((with_reducible refine gate_store (p := 61) rfl ?_); refine store_event rfl rfl (w1 := ?w18_n9) ?w18_r9 ?_; (case w18_r9 => (have hz := cel BKb7 5 rfl; have hf := fz BKb7; go_simp; rfl)); generalize hW : World.setCell _ ⟨b7, 5, none⟩ _ = w19_; replace BKb2 := fS1 hW BKb2 Nb2b7; replace BKb5 := fS1 hW BKb5 Nb5b7; replace HQ := rS1 hW HQ BKb7 (by decide); replace BKb7 := pS1 (cs' := #[.int .i64 K, .int .i64 d, .int .i64 0, .slice Aq q.length cq, .string (⟨#[]⟩ : ByteArray), .string r2]) hW BKb7 rfl; replace HB := sS1 hW HB GEb7; clear hW; obtain ⟨hz62_0, hz62_1, hz62_2, hz62_3, hz62_4, hz62_5⟩ := cS6 BKb7; have hf62_ := fz BKb7))
 have h := HH.out
 clear HH
 cases ok
 case false =>
  simp only [Bool.false_eq_true, if_false, Option.some.injEq, Prod.mk.injEq] at h
  obtain ⟨rfl, rfl, rfl, rfl, rfl, rfl, rfl⟩ := h
  go_wp2_with (first | ((with_reducible refine gate_callee (f := 33) rfl ?_); refine goM (some 63) Tryz.func33 #[.agg #[.int .i64 K, .int .i64 d, .int .i64 (0 : Int), .slice Aq q.length cq, .string (⟨#[]⟩ : ByteArray), .string r2]] ?_; refine (impl_CallOK.calls k K d (0 : Int) Aq cq q (⟨#[]⟩ : ByteArray) r2 _ _ (Kd.R_reads' HQ.out).2.2 (Kd.R_reads' HQ.out).2.1 HXo.out).mono ?_; rintro e w20_ ⟨rfl, hb⟩; refine ⟨_, rfl, ?_⟩; replace BKb2 := lB BKb2 hb; replace BKb5 := lB BKb5 hb; replace BKb7 := lB BKb7 hb; replace HQ := lR HQ hb; replace HB := lS HB hb; clear hb) | ((with_reducible refine gate_store (p := 2) rfl ?_); refine store_event rfl rfl (w1 := ?w21_n10) ?w21_r10 ?_; (case w21_r10 => (obtain ⟨hz0, hz1, hz2, hz3, hz4, hz5⟩ := cS6 BKb2; have hf := fz BKb2; go_simp; rfl)); generalize hW : World.setCell _ ⟨b2, 5, none⟩ _ = w22_; replace BKb5 := fS6 hW BKb5 Nb5b2; replace BKb7 := fS6 hW BKb7 Nb7b2; replace HQ := rS6 hW HQ BKb2 (by decide); replace BKb2 := pS6 hW BKb2; replace HB := sS6 hW HB GEb2; clear hW))
  refine bodyPost_ret (results_ct rfl _ _ b2 24 #[.int .i64 0, .int .i64 0, .int .i64 0, .slice none 0 0, .string (⟨#[]⟩ : ByteArray), .string (⟨#[]⟩ : ByteArray)] (0, 0) _ rfl BKb2.out Tryz.underlying24 rfl (by kernel_rfl)) rfl ?_
  exact ⟨_, rfl, Kd.R_nil _ _ _ _ _, HB.out⟩
 case true =>
  rw [if_pos rfl] at h
  obtain ⟨ct, e12, h⟩ := Option.bind_eq_some_iff.1 h
  have HXt := Aside0.mk e12
  clear e12
  by_cases hct : ct.toList = t.toList
  ·rw [if_pos hct] at h
   have t1 : (ct.toList != t.toList) = false := by rw [hct]; simp
   have t2 : (ct.toList == t.toList) = true := by rw [hct]; simp
   clear hct
   simp only [Option.some.injEq, Prod.mk.injEq] at h
   obtain ⟨rfl, rfl, rfl, rfl, rfl, rfl, rfl⟩ := h
   go_wp2_with (first | ((with_reducible refine gate_callee (f := 33) rfl ?_); refine goM (some 63) Tryz.func33 #[.agg #[.int .i64 K, .int .i64 d, .int .i64 (0 : Int), .slice Aq q.length cq, .string (⟨#[]⟩ : ByteArray), .string r2]] ?_; refine (impl_CallOK.calls k K d (0 : Int) Aq cq q (⟨#[]⟩ : ByteArray) r2 _ _ (Kd.R_reads' HQ.out).2.2 (Kd.R_reads' HQ.out).2.1 HXo.out).mono ?_; rintro e w20_ ⟨rfl, hb⟩; refine ⟨_, rfl, ?_⟩; replace BKb2 := lB BKb2 hb; replace BKb5 := lB BKb5 hb; replace BKb7 := lB BKb7 hb; replace HQ := lR HQ hb; replace HB := lS HB hb; clear hb; obtain ⟨hz66_0, hz66_1, hz66_2, hz66_3, hz66_4, hz66_5⟩ := cS6 BKb7; have hf66_ := fz BKb7) | ((with_reducible refine gate_dst (N := 67) rfl ?_); (try (refine gate_guard (by rfl) ?_; dsimp only)); (with_reducible refine gate_callee (f := 34) rfl ?_); refine goM (some 67) Tryz.func34 #[.agg #[.int .i64 K, .int .i64 d, .int .i64 (0 : Int), .slice Aq q.length cq, .string (⟨#[]⟩ : ByteArray), .string r2]] ?_; refine (impl_callText.calls k K d (0 : Int) Aq cq q (⟨#[]⟩ : ByteArray) r2 ct _ (HG.out.below HB.out) (Kd.R_reads' HQ.out).2.2 (Kd.R_reads' HQ.out).2.1 HXt.out).mono ?_; rintro e w21_ ⟨rfl, hb⟩; refine ⟨_, rfl, ?_⟩; replace BKb2 := lB BKb2 hb; replace BKb5 := lB BKb5 hb; replace BKb7 := lB BKb7 hb; replace HQ := lR HQ hb; replace HB := lS HB hb; clear hb; obtain ⟨hz72_0, hz72_1, hz72_2, hz72_3, hz72_4, hz72_5⟩ := cS6 BKb7; have hf72_ := fz BKb7) | ((with_reducible refine gate_store (p := 2) rfl ?_); refine store_event rfl rfl (w1 := ?w22_n11) ?w22_r11 ?_; (case w22_r11 => (obtain ⟨hz0, hz1, hz2, hz3, hz4, hz5⟩ := cS6 BKb2; have hf := fz BKb2; go_simp; rfl)); generalize hW : World.setCell _ ⟨b2, 5, none⟩ _ = w23_; replace BKb5 := fS6 hW BKb5 Nb5b2; replace BKb7 := fS6 hW BKb7 Nb7b2; replace HQ := rS6 hW HQ BKb2 (by decide); replace BKb2 := pS6 hW BKb2; replace HB := sS6 hW HB GEb2; clear hW))
   refine bodyPost_ret (results_ct rfl _ _ b2 24 #[.int .i64 K, .int .i64 d, .int .i64 (0 : Int), .slice Aq q.length cq, .string (⟨#[]⟩ : ByteArray), .string r2] (0, 0) _ rfl BKb2.out Tryz.underlying24 rfl (by kernel_rfl)) rfl ?_
   exact ⟨_, rfl, HQ.out, HB.out⟩
  ·rw [if_neg hct] at h
   have t1 : (ct.toList != t.toList) = true := by simpa using hct
   have t2 : (ct.toList == t.toList) = false := by simpa using hct
   clear hct
   simp only [Option.some.injEq, Prod.mk.injEq] at h
   obtain ⟨rfl, rfl, rfl, rfl, rfl, rfl, rfl⟩ := h
   go_wp2_with (first | ((with_reducible refine gate_callee (f := 33) rfl ?_); refine goM (some 63) Tryz.func33 #[.agg #[.int .i64 K, .int .i64 d, .int .i64 (0 : Int), .slice Aq q.length cq, .string (⟨#[]⟩ : ByteArray), .string r2]] ?_; refine (impl_CallOK.calls k K d (0 : Int) Aq cq q (⟨#[]⟩ : ByteArray) r2 _ _ (Kd.R_reads' HQ.out).2.2 (Kd.R_reads' HQ.out).2.1 HXo.out).mono ?_; rintro e w20_ ⟨rfl, hb⟩; refine ⟨_, rfl, ?_⟩; replace BKb2 := lB BKb2 hb; replace BKb5 := lB BKb5 hb; replace BKb7 := lB BKb7 hb; replace HQ := lR HQ hb; replace HB := lS HB hb; clear hb; obtain ⟨hz66_0, hz66_1, hz66_2, hz66_3, hz66_4, hz66_5⟩ := cS6 BKb7; have hf66_ := fz BKb7) | ((with_reducible refine gate_dst (N := 67) rfl ?_); (try (refine gate_guard (by rfl) ?_; dsimp only)); (with_reducible refine gate_callee (f := 34) rfl ?_); refine goM (some 67) Tryz.func34 #[.agg #[.int .i64 K, .int .i64 d, .int .i64 (0 : Int), .slice Aq q.length cq, .string (⟨#[]⟩ : ByteArray), .string r2]] ?_; refine (impl_callText.calls k K d (0 : Int) Aq cq q (⟨#[]⟩ : ByteArray) r2 ct _ (HG.out.below HB.out) (Kd.R_reads' HQ.out).2.2 (Kd.R_reads' HQ.out).2.1 HXt.out).mono ?_; rintro e w21_ ⟨rfl, hb⟩; refine ⟨_, rfl, ?_⟩; replace BKb2 := lB BKb2 hb; replace BKb5 := lB BKb5 hb; replace BKb7 := lB BKb7 hb; replace HQ := lR HQ hb; replace HB := lS HB hb; clear hb) | ((with_reducible refine gate_store (p := 2) rfl ?_); refine store_event rfl rfl (w1 := ?w22_n12) ?w22_r12 ?_; (case w22_r12 => (obtain ⟨hz0, hz1, hz2, hz3, hz4, hz5⟩ := cS6 BKb2; have hf := fz BKb2; go_simp; rfl)); generalize hW : World.setCell _ ⟨b2, 5, none⟩ _ = w23_; replace BKb5 := fS6 hW BKb5 Nb5b2; replace BKb7 := fS6 hW BKb7 Nb7b2; replace HQ := rS6 hW HQ BKb2 (by decide); replace BKb2 := pS6 hW BKb2; replace HB := sS6 hW HB GEb2; clear hW))
   refine bodyPost_ret (results_ct rfl _ _ b2 24 #[.int .i64 0, .int .i64 0, .int .i64 0, .slice none 0 0, .string (⟨#[]⟩ : ByteArray), .string (⟨#[]⟩ : ByteArray)] (0, 0) _ rfl BKb2.out Tryz.underlying24 rfl (by kernel_rfl)) rfl ?_
   exact ⟨_, rfl, Kd.R_nil _ _ _ _ _, HB.out⟩
set_option maxHeartbeats 4000000 in
set_option maxRecDepth 100000 in
theorem rc_ttft (k : Nat) (t : ByteArray) (K : Int) (a0 r0 : ByteArray) (x0 : Bool) (v1 v2 v3 : Int) (v4 : List Int) (v5 v6 : ByteArray) (v7 : Bool) (w : World) (gw : GW w) (h0 : strings_Cut.f t sp = some (a0, r0, x0)) (hK : slices_Index_string_string.f k W10 a0 = some K) (hge : ¬ K < 1)
  (hp : impl_hasPath.f K = some true) (hn : impl_hasName.f K = some true) (hc : impl_hasConfig.f K = some false) (hx : impl_hasText.f K = some true) (h : tailI k t K r0 true true false true = some (v1, v2, v3, v4, v5, v6, v7)) :
  Calls Tryz.prog 11 #[.string t] w fun e w' => ∃ v_ : Value, e = .returned (.tuple #[.agg #[.int .i64 v1, .int .i64 v2, .int .i64 v3, v_, .string v5, .string v6], .bool v7]) ∧ Kd.R (Kd.int .i64) 3 w' w.heap.size (fun _ => True) v_ v4 ∧ Below w.heap.size w w' := by
 have hu24 := Tryz.underlying24
 have eg := enters_of Tryz.func26 (by kernel_rfl) rfl
 have HG := Aside0.mk gw
 have HB := Aside0.mk (Below.refl w.heap.size w)
 have HX0 := Aside0.mk h0
 have HXK := Aside0.mk hK
 have HP := Aside0.mk hp
 have HN := Aside0.mk hn
 have HC := Aside0.mk hc
 have HT := Aside0.mk hx
 have d1 : decide (K < 1) = false := decide_eq_false hge
 clear gw h0 hK hp hn hc hx hge
 unfold tailI at h
 obtain ⟨⟨a1, r1, x1⟩, e1, h⟩ := Option.bind_eq_some_iff.1 h
 obtain ⟨⟨d, bd⟩, e2, h⟩ := Option.bind_eq_some_iff.1 h
 have HX1 := Aside0.mk e1
 have HXd := Aside0.mk e2
 clear e1 e2
 obtain ⟨⟨y1, y2⟩, e3, h⟩ := Option.bind_eq_some_iff.1 h
 rw [if_pos rfl] at e3
 obtain ⟨⟨a2, r2, x2⟩, e4, e3⟩ := Option.bind_eq_some_iff.1 e3
 obtain ⟨⟨q, bq⟩, e5, e3⟩ := Option.bind_eq_some_iff.1 e3
 simp only [Option.some.injEq, Prod.mk.injEq] at e3
 obtain ⟨rfl, rfl⟩ := e3
 have HX2 := Aside0.mk e4
 have HXq := Aside0.mk e5
 clear e4 e5
 obtain ⟨⟨z1, z2⟩, e6, h⟩ := Option.bind_eq_some_iff.1 h
 rw [if_pos rfl] at e6
 obtain ⟨⟨a3, r3, x3⟩, e7, e6⟩ := Option.bind_eq_some_iff.1 e6
 simp only [Option.some.injEq, Prod.mk.injEq] at e6
 obtain ⟨rfl, rfl⟩ := e6
 have HX3 := Aside0.mk e7
 clear e7
 obtain ⟨⟨u1, u2⟩, e8, h⟩ := Option.bind_eq_some_iff.1 h
 rw [if_neg (by decide)] at e8
 simp only [Option.some.injEq, Prod.mk.injEq] at e8
 obtain ⟨rfl, rfl⟩ := e8
 obtain ⟨ok, e11, h⟩ := Option.bind_eq_some_iff.1 h
 simp only [if_true] at e11 h
 have HXo := Aside0.mk e11
 clear e11
 have HH := Aside0.mk h
 clear h
 go_enter Tryz.func11, Tryz.ntmps11
 go_upto_region 15 with (first | ((with_reducible refine gate_dst (N := 2) rfl ?_); refine box_event ?hg (N := 2) ?hd (cs := #[.int .i64 0, .int .i64 0, .int .i64 0, .slice none 0 0, .string (⟨#[]⟩ : ByteArray), .string (⟨#[]⟩ : ByteArray)]) (t := 24) ?hr ?_; (case hd => rfl); (case hg => rfl); (case hr => first | (go_simp; done) | (go_simp; rfl)); intro b2 hg w1_ hbox hb; have GEb2 := gE hg HB; replace HB := lS HB hb; have BKb2 := Aside0.mk hbox; clear hb hbox hg) | ((with_reducible refine gate_callee (f := 23) rfl ?_); refine goM (some 11) Tryz.func23 #[.string t, .string sp] ?_; refine (strings_Cut.calls t sp a0 r0 x0 _ (HG.out.below HB.out) HX0.out).mono ?_; rintro e w2_ ⟨rfl, hb⟩; refine ⟨_, rfl, ?_⟩; replace BKb2 := lB BKb2 hb; replace HB := lS HB hb; clear hb) | ((with_reducible refine gate_dst (N := 5) rfl ?_); refine box_event ?hg (N := 5) ?hd (cs := #[.string (⟨#[]⟩ : ByteArray)]) (t := 9) ?hr ?_; (case hd => rfl); (case hg => rfl); (case hr => first | (go_simp; done) | (go_simp; rfl)); intro b5 hg w3_ hbox hb; have Nb2b5 := nL hg BKb2; have Nb5b2 := nG hg BKb2; have GEb5 := gE hg HB; replace BKb2 := lB BKb2 hb; replace HB := lS HB hb; have BKb5 := Aside0.mk hbox; clear hb hbox hg) | ((with_reducible refine gate_store (p := 5) rfl ?_); refine store_event rfl rfl (w1 := ?w4_n13) ?w4_r13 ?_; (case w4_r13 => (have hz := cel BKb5 0 rfl; have hf := fz BKb5; go_simp; rfl)); generalize hW : World.setCell _ ⟨b5, 0, none⟩ _ = w5_; replace BKb2 := fS1 hW BKb2 Nb2b5; replace BKb5 := pS1 (cs' := #[.string r0]) hW BKb5 rfl; replace HB := sS1 hW HB GEb5; clear hW) | ((with_reducible refine gate_callee (f := 25) rfl ?_); refine goM (some 15) Tryz.func25 #[] ?_; refine (impl_callWords.calls W10 _ W10_is).mono ?_; rintro e w6_ ⟨vw_, rfl, ho0, hb⟩; refine ⟨_, rfl, ?_⟩; have nw_ := Aside0.mk (Kd.R_lower ho0 (below_size HB.out)); clear ho0; replace BKb2 := lB BKb2 hb; replace BKb5 := lB BKb5 hb; replace HB := lS HB hb; clear hb; have HW := nw_; clear nw_; obtain ⟨Aw, cw, ew⟩ := Kd.R_slice HW.out; subst ew) | ((with_reducible refine gate_callee (f := 24) rfl ?_); refine goM (some 17) Tryz.func24 #[.slice Aw W10.length cw, .string a0] ?_; refine (slices_Index_string_string.calls k _ _ W10 a0 K _ (Kd.R_reads' HW.out).2.2 (Kd.R_reads' HW.out).2.1 HXK.out).mono ?_; rintro e w' ⟨rfl, hd⟩; refine ⟨_, rfl, ?_⟩; have hb := Go.Proofs.YtfjnlliilnmfaaaGreatDoor.RF.drawn_below hd; clear hd; replace BKb2 := lB BKb2 hb; replace BKb5 := lB BKb5 hb; replace HW := lR HW hb; replace HB := lS HB hb; clear hb) | ((with_reducible refine gate_dst (N := 7) rfl ?_); refine box_event ?hg (N := 7) ?hd (cs := #[.int .i64 0, .int .i64 0, .int .i64 0, .slice none 0 0, .string (⟨#[]⟩ : ByteArray), .string (⟨#[]⟩ : ByteArray)]) (t := 24) ?hr ?_; (case hd => rfl); (case hg => rfl); (case hr => first | (go_simp; done) | (go_simp; rfl)); intro b7 hg w7_ hbox hb; have Nb2b7 := nL hg BKb2; have Nb7b2 := nG hg BKb2; have Nb5b7 := nL hg BKb5; have Nb7b5 := nG hg BKb5; have GEb7 := gE hg HB; replace BKb2 := lB BKb2 hb; replace BKb5 := lB BKb5 hb; replace HB := lS HB hb; have BKb7 := Aside0.mk hbox; clear hb hbox hg) | ((with_reducible refine gate_store (p := 7) rfl ?_); refine store_event rfl rfl (w1 := ?w8_n13) ?w8_r13 ?_; (case w8_r13 => (obtain ⟨hz0, hz1, hz2, hz3, hz4, hz5⟩ := cS6 BKb7; have hf := fz BKb7; go_simp; rfl)); generalize hW : World.setCell _ ⟨b7, 5, none⟩ _ = w9_; replace BKb2 := fS6 hW BKb2 Nb2b7; replace BKb5 := fS6 hW BKb5 Nb5b7; replace BKb7 := pS6 hW BKb7; replace HB := sS6 hW HB GEb7; clear hW; obtain ⟨hz20_0, hz20_1, hz20_2, hz20_3, hz20_4, hz20_5⟩ := cS6 BKb7; have hf20_ := fz BKb7) | ((with_reducible refine gate_dst (N := 26) rfl ?_); refine goesV_ (p := 25) (some 26) rfl rfl Tryz.func26 (by kernel_rfl) rfl #[.pointer (some ⟨b5, 0, none⟩)] rfl rfl ?_; refine (next_calls (HG.out.below HB.out) HX1.out BKb5.out).mono ?_; rintro e w10_ ⟨rfl, h5, hg⟩; refine ⟨_, rfl, ?_⟩; replace BKb2 := lG BKb2 hg Nb2b5; replace BKb7 := lG BKb7 hg Nb7b5; replace BKb5 := Aside0.mk h5; replace HB := gS HB hg GEb5; clear h5 hg) | ((with_reducible refine gate_callee (f := 27) rfl ?_); refine goM (some 27) Tryz.func27 #[.string a1] ?_; refine (impl_number.calls a1 d bd _ (HG.out.below HB.out) HXd.out).mono ?_; rintro e w11_ ⟨rfl, hb⟩; refine ⟨_, rfl, ?_⟩; replace BKb2 := lB BKb2 hb; replace BKb5 := lB BKb5 hb; replace BKb7 := lB BKb7 hb; replace HB := lS HB hb; clear hb) | ((with_reducible refine gate_store (p := 30) rfl ?_); refine store_event rfl rfl (w1 := ?w12_n13) ?w12_r13 ?_; (case w12_r13 => (have hz := cel BKb7 1 rfl; have hf := fz BKb7; go_simp; rfl)); generalize hW : World.setCell _ ⟨b7, 1, none⟩ _ = w13_; replace BKb2 := fS1 hW BKb2 Nb2b7; replace BKb5 := fS1 hW BKb5 Nb5b7; replace BKb7 := pS1 (cs' := #[.int .i64 K, .int .i64 d, .int .i64 0, .slice none 0 0, .string (⟨#[]⟩ : ByteArray), .string (⟨#[]⟩ : ByteArray)]) hW BKb7 rfl; replace HB := sS1 hW HB GEb7; clear hW; obtain ⟨hz32_0, hz32_1, hz32_2, hz32_3, hz32_4, hz32_5⟩ := cS6 BKb7; have hf32_ := fz BKb7) | ((with_reducible refine gate_callee (f := 28) rfl ?_); refine goM (some 33) Tryz.func28 #[.int .i64 K] ?_; refine (impl_hasPath.calls K _ _ HP.out).mono ?_; rintro e w' ⟨rfl, hd⟩; refine ⟨_, rfl, ?_⟩; have hb := Go.Proofs.YtfjnlliilnmfaaaGreatDoor.RF.drawn_below hd; clear hd; replace BKb2 := lB BKb2 hb; replace BKb5 := lB BKb5 hb; replace BKb7 := lB BKb7 hb; replace HB := lS HB hb; clear hb) | ((with_reducible refine gate_dst (N := 36) rfl ?_); refine goesV_ (p := 35) (some 36) rfl rfl Tryz.func26 (by kernel_rfl) rfl #[.pointer (some ⟨b5, 0, none⟩)] rfl rfl ?_; refine (next_calls (HG.out.below HB.out) HX2.out BKb5.out).mono ?_; rintro e w14_ ⟨rfl, h5, hg⟩; refine ⟨_, rfl, ?_⟩; replace BKb2 := lG BKb2 hg Nb2b5; replace BKb7 := lG BKb7 hg Nb7b5; replace BKb5 := Aside0.mk h5; replace HB := gS HB hg GEb5; clear h5 hg) | ((with_reducible refine gate_callee (f := 29) rfl ?_); refine goM (some 37) Tryz.func29 #[.string a2] ?_; refine (impl_readPath.calls k a2 q bq _ (HG.out.below HB.out) HXq.out).mono ?_; rintro e w15_ ⟨vq_, rfl, ho0, hb⟩; refine ⟨_, rfl, ?_⟩; have nq_ := Aside0.mk (Kd.R_lower ho0 (below_size HB.out)); clear ho0; replace BKb2 := lB BKb2 hb; replace BKb5 := lB BKb5 hb; replace BKb7 := lB BKb7 hb; replace HB := lS HB hb; clear hb; have HQ := nq_; clear nq_; obtain ⟨Aq, cq, eq_⟩ := Kd.R_slice HQ.out; subst eq_) | ((with_reducible refine gate_store (p := 40) rfl ?_); refine store_event rfl rfl (w1 := ?w16_n13) ?w16_r13 ?_; (case w16_r13 => (have hz := cel BKb7 3 rfl; have hf := fz BKb7; go_simp; rfl)); generalize hW : World.setCell _ ⟨b7, 3, none⟩ _ = w17_; replace BKb2 := fS1 hW BKb2 Nb2b7; replace BKb5 := fS1 hW BKb5 Nb5b7; replace HQ := rS1 hW HQ BKb7 (by decide); replace BKb7 := pS1 (cs' := #[.int .i64 K, .int .i64 d, .int .i64 0, .slice Aq q.length cq, .string (⟨#[]⟩ : ByteArray), .string (⟨#[]⟩ : ByteArray)]) hW BKb7 rfl; replace HB := sS1 hW HB GEb7; clear hW; obtain ⟨hz42_0, hz42_1, hz42_2, hz42_3, hz42_4, hz42_5⟩ := cS6 BKb7; have hf42_ := fz BKb7) | ((with_reducible refine gate_callee (f := 30) rfl ?_); refine goM (some 43) Tryz.func30 #[.int .i64 K] ?_; refine (impl_hasName.calls K _ _ HN.out).mono ?_; rintro e w' ⟨rfl, hd⟩; refine ⟨_, rfl, ?_⟩; have hb := Go.Proofs.YtfjnlliilnmfaaaGreatDoor.RF.drawn_below hd; clear hd; replace BKb2 := lB BKb2 hb; replace BKb5 := lB BKb5 hb; replace BKb7 := lB BKb7 hb; replace HQ := lR HQ hb; replace HB := lS HB hb; clear hb) | ((with_reducible refine gate_dst (N := 45) rfl ?_); refine goesV_ (p := 44) (some 45) rfl rfl Tryz.func26 (by kernel_rfl) rfl #[.pointer (some ⟨b5, 0, none⟩)] rfl rfl ?_; refine (next_calls (HG.out.below HB.out) HX3.out BKb5.out).mono ?_; rintro e w18_ ⟨rfl, h5, hg⟩; refine ⟨_, rfl, ?_⟩; replace BKb2 := lG BKb2 hg Nb2b5; replace BKb7 := lG BKb7 hg Nb7b5; replace HQ := lQ HQ hg BKb5 (by decide); replace BKb5 := Aside0.mk h5; replace HB := gS HB hg GEb5; clear h5 hg) | ((with_reducible refine gate_store (p := 46) rfl ?_); refine store_event rfl rfl (w1 := ?w19_n13) ?w19_r13 ?_; (case w19_r13 => (have hz := cel BKb7 4 rfl; have hf := fz BKb7; go_simp; rfl)); generalize hW : World.setCell _ ⟨b7, 4, none⟩ _ = w20_; replace BKb2 := fS1 hW BKb2 Nb2b7; replace BKb5 := fS1 hW BKb5 Nb5b7; replace HQ := rS1 hW HQ BKb7 (by decide); replace BKb7 := pS1 (cs' := #[.int .i64 K, .int .i64 d, .int .i64 0, .slice Aq q.length cq, .string a3, .string (⟨#[]⟩ : ByteArray)]) hW BKb7 rfl; replace HB := sS1 hW HB GEb7; clear hW; obtain ⟨hz48_0, hz48_1, hz48_2, hz48_3, hz48_4, hz48_5⟩ := cS6 BKb7; have hf48_ := fz BKb7) | ((with_reducible refine gate_callee (f := 31) rfl ?_); refine goM (some 49) Tryz.func31 #[.int .i64 K] ?_; refine (impl_hasConfig.calls K _ _ HC.out).mono ?_; rintro e w' ⟨rfl, hd⟩; refine ⟨_, rfl, ?_⟩; have hb := Go.Proofs.YtfjnlliilnmfaaaGreatDoor.RF.drawn_below hd; clear hd; replace BKb2 := lB BKb2 hb; replace BKb5 := lB BKb5 hb; replace BKb7 := lB BKb7 hb; replace HQ := lR HQ hb; replace HB := lS HB hb; clear hb; obtain ⟨hz58_0, hz58_1, hz58_2, hz58_3, hz58_4, hz58_5⟩ := cS6 BKb7; have hf58_ := fz BKb7) | ((with_reducible refine gate_callee (f := 32) rfl ?_); refine goM (some 59) Tryz.func32 #[.int .i64 K] ?_; refine (impl_hasText.calls K _ _ HT.out).mono ?_; rintro e w' ⟨rfl, hd⟩; refine ⟨_, rfl, ?_⟩; have hb := Go.Proofs.YtfjnlliilnmfaaaGreatDoor.RF.drawn_below hd; clear hd; replace BKb2 := lB BKb2 hb; replace BKb5 := lB BKb5 hb; replace BKb7 := lB BKb7 hb; replace HQ := lR HQ hb; replace HB := lS HB hb; clear hb; have hz60_0 := cel BKb5 0 rfl; have hf60_ := fz BKb5) | ((with_reducible refine gate_store (p := 61) rfl ?_); refine store_event rfl rfl (w1 := ?w21_n13) ?w21_r13 ?_; (case w21_r13 => (have hz := cel BKb7 5 rfl; have hf := fz BKb7; go_simp; rfl)); generalize hW : World.setCell _ ⟨b7, 5, none⟩ _ = w22_; replace BKb2 := fS1 hW BKb2 Nb2b7; replace BKb5 := fS1 hW BKb5 Nb5b7; replace HQ := rS1 hW HQ BKb7 (by decide); replace BKb7 := pS1 (cs' := #[.int .i64 K, .int .i64 d, .int .i64 0, .slice Aq q.length cq, .string a3, .string r3]) hW BKb7 rfl; replace HB := sS1 hW HB GEb7; clear hW; obtain ⟨hz62_0, hz62_1, hz62_2, hz62_3, hz62_4, hz62_5⟩ := cS6 BKb7; have hf62_ := fz BKb7))
 have h := HH.out
 clear HH
 cases ok
 case false =>
  simp only [Bool.false_eq_true, if_false, Option.some.injEq, Prod.mk.injEq] at h
  obtain ⟨rfl, rfl, rfl, rfl, rfl, rfl, rfl⟩ := h
  go_wp2_with (first | ((with_reducible refine gate_callee (f := 33) rfl ?_); refine goM (some 63) Tryz.func33 #[.agg #[.int .i64 K, .int .i64 d, .int .i64 (0 : Int), .slice Aq q.length cq, .string a3, .string r3]] ?_; refine (impl_CallOK.calls k K d (0 : Int) Aq cq q a3 r3 _ _ (Kd.R_reads' HQ.out).2.2 (Kd.R_reads' HQ.out).2.1 HXo.out).mono ?_; rintro e w23_ ⟨rfl, hb⟩; refine ⟨_, rfl, ?_⟩; replace BKb2 := lB BKb2 hb; replace BKb5 := lB BKb5 hb; replace BKb7 := lB BKb7 hb; replace HQ := lR HQ hb; replace HB := lS HB hb; clear hb) | ((with_reducible refine gate_store (p := 2) rfl ?_); refine store_event rfl rfl (w1 := ?w24_n14) ?w24_r14 ?_; (case w24_r14 => (obtain ⟨hz0, hz1, hz2, hz3, hz4, hz5⟩ := cS6 BKb2; have hf := fz BKb2; go_simp; rfl)); generalize hW : World.setCell _ ⟨b2, 5, none⟩ _ = w25_; replace BKb5 := fS6 hW BKb5 Nb5b2; replace BKb7 := fS6 hW BKb7 Nb7b2; replace HQ := rS6 hW HQ BKb2 (by decide); replace BKb2 := pS6 hW BKb2; replace HB := sS6 hW HB GEb2; clear hW))
  refine bodyPost_ret (results_ct rfl _ _ b2 24 #[.int .i64 0, .int .i64 0, .int .i64 0, .slice none 0 0, .string (⟨#[]⟩ : ByteArray), .string (⟨#[]⟩ : ByteArray)] (0, 0) _ rfl BKb2.out Tryz.underlying24 rfl (by kernel_rfl)) rfl ?_
  exact ⟨_, rfl, Kd.R_nil _ _ _ _ _, HB.out⟩
 case true =>
  rw [if_pos rfl] at h
  obtain ⟨ct, e12, h⟩ := Option.bind_eq_some_iff.1 h
  have HXt := Aside0.mk e12
  clear e12
  by_cases hct : ct.toList = t.toList
  ·rw [if_pos hct] at h
   have t1 : (ct.toList != t.toList) = false := by rw [hct]; simp
   have t2 : (ct.toList == t.toList) = true := by rw [hct]; simp
   clear hct
   simp only [Option.some.injEq, Prod.mk.injEq] at h
   obtain ⟨rfl, rfl, rfl, rfl, rfl, rfl, rfl⟩ := h
   go_wp2_with (first | ((with_reducible refine gate_callee (f := 33) rfl ?_); refine goM (some 63) Tryz.func33 #[.agg #[.int .i64 K, .int .i64 d, .int .i64 (0 : Int), .slice Aq q.length cq, .string a3, .string r3]] ?_; refine (impl_CallOK.calls k K d (0 : Int) Aq cq q a3 r3 _ _ (Kd.R_reads' HQ.out).2.2 (Kd.R_reads' HQ.out).2.1 HXo.out).mono ?_; rintro e w23_ ⟨rfl, hb⟩; refine ⟨_, rfl, ?_⟩; replace BKb2 := lB BKb2 hb; replace BKb5 := lB BKb5 hb; replace BKb7 := lB BKb7 hb; replace HQ := lR HQ hb; replace HB := lS HB hb; clear hb; obtain ⟨hz66_0, hz66_1, hz66_2, hz66_3, hz66_4, hz66_5⟩ := cS6 BKb7; have hf66_ := fz BKb7) | ((with_reducible refine gate_dst (N := 67) rfl ?_); (try (refine gate_guard (by rfl) ?_; dsimp only)); (with_reducible refine gate_callee (f := 34) rfl ?_); refine goM (some 67) Tryz.func34 #[.agg #[.int .i64 K, .int .i64 d, .int .i64 (0 : Int), .slice Aq q.length cq, .string a3, .string r3]] ?_; refine (impl_callText.calls k K d (0 : Int) Aq cq q a3 r3 ct _ (HG.out.below HB.out) (Kd.R_reads' HQ.out).2.2 (Kd.R_reads' HQ.out).2.1 HXt.out).mono ?_; rintro e w24_ ⟨rfl, hb⟩; refine ⟨_, rfl, ?_⟩; replace BKb2 := lB BKb2 hb; replace BKb5 := lB BKb5 hb; replace BKb7 := lB BKb7 hb; replace HQ := lR HQ hb; replace HB := lS HB hb; clear hb; obtain ⟨hz72_0, hz72_1, hz72_2, hz72_3, hz72_4, hz72_5⟩ := cS6 BKb7; have hf72_ := fz BKb7) | ((with_reducible refine gate_store (p := 2) rfl ?_); refine store_event rfl rfl (w1 := ?w25_n15) ?w25_r15 ?_; (case w25_r15 => (obtain ⟨hz0, hz1, hz2, hz3, hz4, hz5⟩ := cS6 BKb2; have hf := fz BKb2; go_simp; rfl)); generalize hW : World.setCell _ ⟨b2, 5, none⟩ _ = w26_; replace BKb5 := fS6 hW BKb5 Nb5b2; replace BKb7 := fS6 hW BKb7 Nb7b2; replace HQ := rS6 hW HQ BKb2 (by decide); replace BKb2 := pS6 hW BKb2; replace HB := sS6 hW HB GEb2; clear hW))
   refine bodyPost_ret (results_ct rfl _ _ b2 24 #[.int .i64 K, .int .i64 d, .int .i64 (0 : Int), .slice Aq q.length cq, .string a3, .string r3] (0, 0) _ rfl BKb2.out Tryz.underlying24 rfl (by kernel_rfl)) rfl ?_
   exact ⟨_, rfl, HQ.out, HB.out⟩
  ·rw [if_neg hct] at h
   have t1 : (ct.toList != t.toList) = true := by simpa using hct
   have t2 : (ct.toList == t.toList) = false := by simpa using hct
   clear hct
   simp only [Option.some.injEq, Prod.mk.injEq] at h
   obtain ⟨rfl, rfl, rfl, rfl, rfl, rfl, rfl⟩ := h
   go_wp2_with (first | ((with_reducible refine gate_callee (f := 33) rfl ?_); refine goM (some 63) Tryz.func33 #[.agg #[.int .i64 K, .int .i64 d, .int .i64 (0 : Int), .slice Aq q.length cq, .string a3, .string r3]] ?_; refine (impl_CallOK.calls k K d (0 : Int) Aq cq q a3 r3 _ _ (Kd.R_reads' HQ.out).2.2 (Kd.R_reads' HQ.out).2.1 HXo.out).mono ?_; rintro e w23_ ⟨rfl, hb⟩; refine ⟨_, rfl, ?_⟩; replace BKb2 := lB BKb2 hb; replace BKb5 := lB BKb5 hb; replace BKb7 := lB BKb7 hb; replace HQ := lR HQ hb; replace HB := lS HB hb; clear hb; obtain ⟨hz66_0, hz66_1, hz66_2, hz66_3, hz66_4, hz66_5⟩ := cS6 BKb7; have hf66_ := fz BKb7) | ((with_reducible refine gate_dst (N := 67) rfl ?_); (try (refine gate_guard (by rfl) ?_; dsimp only)); (with_reducible refine gate_callee (f := 34) rfl ?_); refine goM (some 67) Tryz.func34 #[.agg #[.int .i64 K, .int .i64 d, .int .i64 (0 : Int), .slice Aq q.length cq, .string a3, .string r3]] ?_; refine (impl_callText.calls k K d (0 : Int) Aq cq q a3 r3 ct _ (HG.out.below HB.out) (Kd.R_reads' HQ.out).2.2 (Kd.R_reads' HQ.out).2.1 HXt.out).mono ?_; rintro e w24_ ⟨rfl, hb⟩; refine ⟨_, rfl, ?_⟩; replace BKb2 := lB BKb2 hb; replace BKb5 := lB BKb5 hb; replace BKb7 := lB BKb7 hb; replace HQ := lR HQ hb; replace HB := lS HB hb; clear hb) | ((with_reducible refine gate_store (p := 2) rfl ?_); refine store_event rfl rfl (w1 := ?w25_n16) ?w25_r16 ?_; (case w25_r16 => (obtain ⟨hz0, hz1, hz2, hz3, hz4, hz5⟩ := cS6 BKb2; have hf := fz BKb2; go_simp; rfl)); generalize hW : World.setCell _ ⟨b2, 5, none⟩ _ = w26_; replace BKb5 := fS6 hW BKb5 Nb5b2; replace BKb7 := fS6 hW BKb7 Nb7b2; replace HQ := rS6 hW HQ BKb2 (by decide); replace BKb2 := pS6 hW BKb2; replace HB := sS6 hW HB GEb2; clear hW))
   refine bodyPost_ret (results_ct rfl _ _ b2 24 #[.int .i64 0, .int .i64 0, .int .i64 0, .slice none 0 0, .string (⟨#[]⟩ : ByteArray), .string (⟨#[]⟩ : ByteArray)] (0, 0) _ rfl BKb2.out Tryz.underlying24 rfl (by kernel_rfl)) rfl ?_
   exact ⟨_, rfl, Kd.R_nil _ _ _ _ _, HB.out⟩
set_option maxHeartbeats 4000000 in
set_option maxRecDepth 100000 in
theorem rc_tfff (k : Nat) (t : ByteArray) (K : Int) (a0 r0 : ByteArray) (x0 : Bool) (v1 v2 v3 : Int) (v4 : List Int) (v5 v6 : ByteArray) (v7 : Bool) (w : World) (gw : GW w) (h0 : strings_Cut.f t sp = some (a0, r0, x0)) (hK : slices_Index_string_string.f k W10 a0 = some K) (hge : ¬ K < 1)
  (hp : impl_hasPath.f K = some true) (hn : impl_hasName.f K = some false) (hc : impl_hasConfig.f K = some false) (hx : impl_hasText.f K = some false) (h : tailI k t K r0 true false false false = some (v1, v2, v3, v4, v5, v6, v7)) :
  Calls Tryz.prog 11 #[.string t] w fun e w' => ∃ v_ : Value, e = .returned (.tuple #[.agg #[.int .i64 v1, .int .i64 v2, .int .i64 v3, v_, .string v5, .string v6], .bool v7]) ∧ Kd.R (Kd.int .i64) 3 w' w.heap.size (fun _ => True) v_ v4 ∧ Below w.heap.size w w' := by
 have hu24 := Tryz.underlying24
 have eg := enters_of Tryz.func26 (by kernel_rfl) rfl
 have HG := Aside0.mk gw
 have HB := Aside0.mk (Below.refl w.heap.size w)
 have HX0 := Aside0.mk h0
 have HXK := Aside0.mk hK
 have HP := Aside0.mk hp
 have HN := Aside0.mk hn
 have HC := Aside0.mk hc
 have HT := Aside0.mk hx
 have d1 : decide (K < 1) = false := decide_eq_false hge
 clear gw h0 hK hp hn hc hx hge
 unfold tailI at h
 obtain ⟨⟨a1, r1, x1⟩, e1, h⟩ := Option.bind_eq_some_iff.1 h
 obtain ⟨⟨d, bd⟩, e2, h⟩ := Option.bind_eq_some_iff.1 h
 have HX1 := Aside0.mk e1
 have HXd := Aside0.mk e2
 clear e1 e2
 obtain ⟨⟨y1, y2⟩, e3, h⟩ := Option.bind_eq_some_iff.1 h
 rw [if_pos rfl] at e3
 obtain ⟨⟨a2, r2, x2⟩, e4, e3⟩ := Option.bind_eq_some_iff.1 e3
 obtain ⟨⟨q, bq⟩, e5, e3⟩ := Option.bind_eq_some_iff.1 e3
 simp only [Option.some.injEq, Prod.mk.injEq] at e3
 obtain ⟨rfl, rfl⟩ := e3
 have HX2 := Aside0.mk e4
 have HXq := Aside0.mk e5
 clear e4 e5
 obtain ⟨⟨z1, z2⟩, e6, h⟩ := Option.bind_eq_some_iff.1 h
 rw [if_neg (by decide)] at e6
 simp only [Option.some.injEq, Prod.mk.injEq] at e6
 obtain ⟨rfl, rfl⟩ := e6
 obtain ⟨⟨u1, u2⟩, e8, h⟩ := Option.bind_eq_some_iff.1 h
 rw [if_neg (by decide)] at e8
 simp only [Option.some.injEq, Prod.mk.injEq] at e8
 obtain ⟨rfl, rfl⟩ := e8
 obtain ⟨ok, e11, h⟩ := Option.bind_eq_some_iff.1 h
 simp only [Bool.false_eq_true, if_false] at e11 h
 have HXo := Aside0.mk e11
 clear e11
 have HH := Aside0.mk h
 clear h
 go_enter Tryz.func11, Tryz.ntmps11
 go_upto_region 15 with (first | ((with_reducible refine gate_dst (N := 2) rfl ?_); refine box_event ?hg (N := 2) ?hd (cs := #[.int .i64 0, .int .i64 0, .int .i64 0, .slice none 0 0, .string (⟨#[]⟩ : ByteArray), .string (⟨#[]⟩ : ByteArray)]) (t := 24) ?hr ?_; (case hd => rfl); (case hg => rfl); (case hr => first | (go_simp; done) | (go_simp; rfl)); intro b2 hg w1_ hbox hb; have GEb2 := gE hg HB; replace HB := lS HB hb; have BKb2 := Aside0.mk hbox; clear hb hbox hg) | ((with_reducible refine gate_callee (f := 23) rfl ?_); refine goM (some 11) Tryz.func23 #[.string t, .string sp] ?_; refine (strings_Cut.calls t sp a0 r0 x0 _ (HG.out.below HB.out) HX0.out).mono ?_; rintro e w2_ ⟨rfl, hb⟩; refine ⟨_, rfl, ?_⟩; replace BKb2 := lB BKb2 hb; replace HB := lS HB hb; clear hb) | ((with_reducible refine gate_dst (N := 5) rfl ?_); refine box_event ?hg (N := 5) ?hd (cs := #[.string (⟨#[]⟩ : ByteArray)]) (t := 9) ?hr ?_; (case hd => rfl); (case hg => rfl); (case hr => first | (go_simp; done) | (go_simp; rfl)); intro b5 hg w3_ hbox hb; have Nb2b5 := nL hg BKb2; have Nb5b2 := nG hg BKb2; have GEb5 := gE hg HB; replace BKb2 := lB BKb2 hb; replace HB := lS HB hb; have BKb5 := Aside0.mk hbox; clear hb hbox hg) | ((with_reducible refine gate_store (p := 5) rfl ?_); refine store_event rfl rfl (w1 := ?w4_n17) ?w4_r17 ?_; (case w4_r17 => (have hz := cel BKb5 0 rfl; have hf := fz BKb5; go_simp; rfl)); generalize hW : World.setCell _ ⟨b5, 0, none⟩ _ = w5_; replace BKb2 := fS1 hW BKb2 Nb2b5; replace BKb5 := pS1 (cs' := #[.string r0]) hW BKb5 rfl; replace HB := sS1 hW HB GEb5; clear hW) | ((with_reducible refine gate_callee (f := 25) rfl ?_); refine goM (some 15) Tryz.func25 #[] ?_; refine (impl_callWords.calls W10 _ W10_is).mono ?_; rintro e w6_ ⟨vw_, rfl, ho0, hb⟩; refine ⟨_, rfl, ?_⟩; have nw_ := Aside0.mk (Kd.R_lower ho0 (below_size HB.out)); clear ho0; replace BKb2 := lB BKb2 hb; replace BKb5 := lB BKb5 hb; replace HB := lS HB hb; clear hb; have HW := nw_; clear nw_; obtain ⟨Aw, cw, ew⟩ := Kd.R_slice HW.out; subst ew) | ((with_reducible refine gate_callee (f := 24) rfl ?_); refine goM (some 17) Tryz.func24 #[.slice Aw W10.length cw, .string a0] ?_; refine (slices_Index_string_string.calls k _ _ W10 a0 K _ (Kd.R_reads' HW.out).2.2 (Kd.R_reads' HW.out).2.1 HXK.out).mono ?_; rintro e w' ⟨rfl, hd⟩; refine ⟨_, rfl, ?_⟩; have hb := Go.Proofs.YtfjnlliilnmfaaaGreatDoor.RF.drawn_below hd; clear hd; replace BKb2 := lB BKb2 hb; replace BKb5 := lB BKb5 hb; replace HW := lR HW hb; replace HB := lS HB hb; clear hb) | ((with_reducible refine gate_dst (N := 7) rfl ?_); refine box_event ?hg (N := 7) ?hd (cs := #[.int .i64 0, .int .i64 0, .int .i64 0, .slice none 0 0, .string (⟨#[]⟩ : ByteArray), .string (⟨#[]⟩ : ByteArray)]) (t := 24) ?hr ?_; (case hd => rfl); (case hg => rfl); (case hr => first | (go_simp; done) | (go_simp; rfl)); intro b7 hg w7_ hbox hb; have Nb2b7 := nL hg BKb2; have Nb7b2 := nG hg BKb2; have Nb5b7 := nL hg BKb5; have Nb7b5 := nG hg BKb5; have GEb7 := gE hg HB; replace BKb2 := lB BKb2 hb; replace BKb5 := lB BKb5 hb; replace HB := lS HB hb; have BKb7 := Aside0.mk hbox; clear hb hbox hg) | ((with_reducible refine gate_store (p := 7) rfl ?_); refine store_event rfl rfl (w1 := ?w8_n17) ?w8_r17 ?_; (case w8_r17 => (obtain ⟨hz0, hz1, hz2, hz3, hz4, hz5⟩ := cS6 BKb7; have hf := fz BKb7; go_simp; rfl)); generalize hW : World.setCell _ ⟨b7, 5, none⟩ _ = w9_; replace BKb2 := fS6 hW BKb2 Nb2b7; replace BKb5 := fS6 hW BKb5 Nb5b7; replace BKb7 := pS6 hW BKb7; replace HB := sS6 hW HB GEb7; clear hW; obtain ⟨hz20_0, hz20_1, hz20_2, hz20_3, hz20_4, hz20_5⟩ := cS6 BKb7; have hf20_ := fz BKb7) | ((with_reducible refine gate_dst (N := 26) rfl ?_); refine goesV_ (p := 25) (some 26) rfl rfl Tryz.func26 (by kernel_rfl) rfl #[.pointer (some ⟨b5, 0, none⟩)] rfl rfl ?_; refine (next_calls (HG.out.below HB.out) HX1.out BKb5.out).mono ?_; rintro e w10_ ⟨rfl, h5, hg⟩; refine ⟨_, rfl, ?_⟩; replace BKb2 := lG BKb2 hg Nb2b5; replace BKb7 := lG BKb7 hg Nb7b5; replace BKb5 := Aside0.mk h5; replace HB := gS HB hg GEb5; clear h5 hg) | ((with_reducible refine gate_callee (f := 27) rfl ?_); refine goM (some 27) Tryz.func27 #[.string a1] ?_; refine (impl_number.calls a1 d bd _ (HG.out.below HB.out) HXd.out).mono ?_; rintro e w11_ ⟨rfl, hb⟩; refine ⟨_, rfl, ?_⟩; replace BKb2 := lB BKb2 hb; replace BKb5 := lB BKb5 hb; replace BKb7 := lB BKb7 hb; replace HB := lS HB hb; clear hb) | ((with_reducible refine gate_store (p := 30) rfl ?_); refine store_event rfl rfl (w1 := ?w12_n17) ?w12_r17 ?_; (case w12_r17 => (have hz := cel BKb7 1 rfl; have hf := fz BKb7; go_simp; rfl)); generalize hW : World.setCell _ ⟨b7, 1, none⟩ _ = w13_; replace BKb2 := fS1 hW BKb2 Nb2b7; replace BKb5 := fS1 hW BKb5 Nb5b7; replace BKb7 := pS1 (cs' := #[.int .i64 K, .int .i64 d, .int .i64 0, .slice none 0 0, .string (⟨#[]⟩ : ByteArray), .string (⟨#[]⟩ : ByteArray)]) hW BKb7 rfl; replace HB := sS1 hW HB GEb7; clear hW; obtain ⟨hz32_0, hz32_1, hz32_2, hz32_3, hz32_4, hz32_5⟩ := cS6 BKb7; have hf32_ := fz BKb7) | ((with_reducible refine gate_callee (f := 28) rfl ?_); refine goM (some 33) Tryz.func28 #[.int .i64 K] ?_; refine (impl_hasPath.calls K _ _ HP.out).mono ?_; rintro e w' ⟨rfl, hd⟩; refine ⟨_, rfl, ?_⟩; have hb := Go.Proofs.YtfjnlliilnmfaaaGreatDoor.RF.drawn_below hd; clear hd; replace BKb2 := lB BKb2 hb; replace BKb5 := lB BKb5 hb; replace BKb7 := lB BKb7 hb; replace HB := lS HB hb; clear hb) | ((with_reducible refine gate_dst (N := 36) rfl ?_); refine goesV_ (p := 35) (some 36) rfl rfl Tryz.func26 (by kernel_rfl) rfl #[.pointer (some ⟨b5, 0, none⟩)] rfl rfl ?_; refine (next_calls (HG.out.below HB.out) HX2.out BKb5.out).mono ?_; rintro e w14_ ⟨rfl, h5, hg⟩; refine ⟨_, rfl, ?_⟩; replace BKb2 := lG BKb2 hg Nb2b5; replace BKb7 := lG BKb7 hg Nb7b5; replace BKb5 := Aside0.mk h5; replace HB := gS HB hg GEb5; clear h5 hg) | ((with_reducible refine gate_callee (f := 29) rfl ?_); refine goM (some 37) Tryz.func29 #[.string a2] ?_; refine (impl_readPath.calls k a2 q bq _ (HG.out.below HB.out) HXq.out).mono ?_; rintro e w15_ ⟨vq_, rfl, ho0, hb⟩; refine ⟨_, rfl, ?_⟩; have nq_ := Aside0.mk (Kd.R_lower ho0 (below_size HB.out)); clear ho0; replace BKb2 := lB BKb2 hb; replace BKb5 := lB BKb5 hb; replace BKb7 := lB BKb7 hb; replace HB := lS HB hb; clear hb; have HQ := nq_; clear nq_; obtain ⟨Aq, cq, eq_⟩ := Kd.R_slice HQ.out; subst eq_) | ((with_reducible refine gate_store (p := 40) rfl ?_); refine store_event rfl rfl (w1 := ?w16_n17) ?w16_r17 ?_; (case w16_r17 => (have hz := cel BKb7 3 rfl; have hf := fz BKb7; go_simp; rfl)); generalize hW : World.setCell _ ⟨b7, 3, none⟩ _ = w17_; replace BKb2 := fS1 hW BKb2 Nb2b7; replace BKb5 := fS1 hW BKb5 Nb5b7; replace HQ := rS1 hW HQ BKb7 (by decide); replace BKb7 := pS1 (cs' := #[.int .i64 K, .int .i64 d, .int .i64 0, .slice Aq q.length cq, .string (⟨#[]⟩ : ByteArray), .string (⟨#[]⟩ : ByteArray)]) hW BKb7 rfl; replace HB := sS1 hW HB GEb7; clear hW; obtain ⟨hz42_0, hz42_1, hz42_2, hz42_3, hz42_4, hz42_5⟩ := cS6 BKb7; have hf42_ := fz BKb7) | ((with_reducible refine gate_callee (f := 30) rfl ?_); refine goM (some 43) Tryz.func30 #[.int .i64 K] ?_; refine (impl_hasName.calls K _ _ HN.out).mono ?_; rintro e w' ⟨rfl, hd⟩; refine ⟨_, rfl, ?_⟩; have hb := Go.Proofs.YtfjnlliilnmfaaaGreatDoor.RF.drawn_below hd; clear hd; replace BKb2 := lB BKb2 hb; replace BKb5 := lB BKb5 hb; replace BKb7 := lB BKb7 hb; replace HQ := lR HQ hb; replace HB := lS HB hb; clear hb; obtain ⟨hz48_0, hz48_1, hz48_2, hz48_3, hz48_4, hz48_5⟩ := cS6 BKb7; have hf48_ := fz BKb7) | ((with_reducible refine gate_callee (f := 31) rfl ?_); refine goM (some 49) Tryz.func31 #[.int .i64 K] ?_; refine (impl_hasConfig.calls K _ _ HC.out).mono ?_; rintro e w' ⟨rfl, hd⟩; refine ⟨_, rfl, ?_⟩; have hb := Go.Proofs.YtfjnlliilnmfaaaGreatDoor.RF.drawn_below hd; clear hd; replace BKb2 := lB BKb2 hb; replace BKb5 := lB BKb5 hb; replace BKb7 := lB BKb7 hb; replace HQ := lR HQ hb; replace HB := lS HB hb; clear hb; obtain ⟨hz58_0, hz58_1, hz58_2, hz58_3, hz58_4, hz58_5⟩ := cS6 BKb7; have hf58_ := fz BKb7) | ((with_reducible refine gate_callee (f := 32) rfl ?_); refine goM (some 59) Tryz.func32 #[.int .i64 K] ?_; refine (impl_hasText.calls K _ _ HT.out).mono ?_; rintro e w' ⟨rfl, hd⟩; refine ⟨_, rfl, ?_⟩; have hb := Go.Proofs.YtfjnlliilnmfaaaGreatDoor.RF.drawn_below hd; clear hd; replace BKb2 := lB BKb2 hb; replace BKb5 := lB BKb5 hb; replace BKb7 := lB BKb7 hb; replace HQ := lR HQ hb; replace HB := lS HB hb; clear hb; obtain ⟨hz62_0, hz62_1, hz62_2, hz62_3, hz62_4, hz62_5⟩ := cS6 BKb7; have hf62_ := fz BKb7))
 have h := HH.out
 clear HH
 cases ok
 case false =>
  simp only [Bool.false_eq_true, if_false, Option.some.injEq, Prod.mk.injEq] at h
  obtain ⟨rfl, rfl, rfl, rfl, rfl, rfl, rfl⟩ := h
  go_wp2_with (first | ((with_reducible refine gate_callee (f := 33) rfl ?_); refine goM (some 63) Tryz.func33 #[.agg #[.int .i64 K, .int .i64 d, .int .i64 (0 : Int), .slice Aq q.length cq, .string (⟨#[]⟩ : ByteArray), .string (⟨#[]⟩ : ByteArray)]] ?_; refine (impl_CallOK.calls k K d (0 : Int) Aq cq q (⟨#[]⟩ : ByteArray) (⟨#[]⟩ : ByteArray) _ _ (Kd.R_reads' HQ.out).2.2 (Kd.R_reads' HQ.out).2.1 HXo.out).mono ?_; rintro e w18_ ⟨rfl, hb⟩; refine ⟨_, rfl, ?_⟩; replace BKb2 := lB BKb2 hb; replace BKb5 := lB BKb5 hb; replace BKb7 := lB BKb7 hb; replace HQ := lR HQ hb; replace HB := lS HB hb; clear hb) | ((with_reducible refine gate_store (p := 2) rfl ?_); refine store_event rfl rfl (w1 := ?w19_n18) ?w19_r18 ?_; (case w19_r18 => (obtain ⟨hz0, hz1, hz2, hz3, hz4, hz5⟩ := cS6 BKb2; have hf := fz BKb2; go_simp; rfl)); generalize hW : World.setCell _ ⟨b2, 5, none⟩ _ = w20_; replace BKb5 := fS6 hW BKb5 Nb5b2; replace BKb7 := fS6 hW BKb7 Nb7b2; replace HQ := rS6 hW HQ BKb2 (by decide); replace BKb2 := pS6 hW BKb2; replace HB := sS6 hW HB GEb2; clear hW))
  refine bodyPost_ret (results_ct rfl _ _ b2 24 #[.int .i64 0, .int .i64 0, .int .i64 0, .slice none 0 0, .string (⟨#[]⟩ : ByteArray), .string (⟨#[]⟩ : ByteArray)] (0, 0) _ rfl BKb2.out Tryz.underlying24 rfl (by kernel_rfl)) rfl ?_
  exact ⟨_, rfl, Kd.R_nil _ _ _ _ _, HB.out⟩
 case true =>
  rw [if_pos rfl] at h
  obtain ⟨ct, e12, h⟩ := Option.bind_eq_some_iff.1 h
  have HXt := Aside0.mk e12
  clear e12
  by_cases hct : ct.toList = t.toList
  ·rw [if_pos hct] at h
   have t1 : (ct.toList != t.toList) = false := by rw [hct]; simp
   have t2 : (ct.toList == t.toList) = true := by rw [hct]; simp
   clear hct
   simp only [Option.some.injEq, Prod.mk.injEq] at h
   obtain ⟨rfl, rfl, rfl, rfl, rfl, rfl, rfl⟩ := h
   go_wp2_with (first | ((with_reducible refine gate_callee (f := 33) rfl ?_); refine goM (some 63) Tryz.func33 #[.agg #[.int .i64 K, .int .i64 d, .int .i64 (0 : Int), .slice Aq q.length cq, .string (⟨#[]⟩ : ByteArray), .string (⟨#[]⟩ : ByteArray)]] ?_; refine (impl_CallOK.calls k K d (0 : Int) Aq cq q (⟨#[]⟩ : ByteArray) (⟨#[]⟩ : ByteArray) _ _ (Kd.R_reads' HQ.out).2.2 (Kd.R_reads' HQ.out).2.1 HXo.out).mono ?_; rintro e w18_ ⟨rfl, hb⟩; refine ⟨_, rfl, ?_⟩; replace BKb2 := lB BKb2 hb; replace BKb5 := lB BKb5 hb; replace BKb7 := lB BKb7 hb; replace HQ := lR HQ hb; replace HB := lS HB hb; clear hb; obtain ⟨hz66_0, hz66_1, hz66_2, hz66_3, hz66_4, hz66_5⟩ := cS6 BKb7; have hf66_ := fz BKb7) | ((with_reducible refine gate_dst (N := 67) rfl ?_); (try (refine gate_guard (by rfl) ?_; dsimp only)); (with_reducible refine gate_callee (f := 34) rfl ?_); refine goM (some 67) Tryz.func34 #[.agg #[.int .i64 K, .int .i64 d, .int .i64 (0 : Int), .slice Aq q.length cq, .string (⟨#[]⟩ : ByteArray), .string (⟨#[]⟩ : ByteArray)]] ?_; refine (impl_callText.calls k K d (0 : Int) Aq cq q (⟨#[]⟩ : ByteArray) (⟨#[]⟩ : ByteArray) ct _ (HG.out.below HB.out) (Kd.R_reads' HQ.out).2.2 (Kd.R_reads' HQ.out).2.1 HXt.out).mono ?_; rintro e w19_ ⟨rfl, hb⟩; refine ⟨_, rfl, ?_⟩; replace BKb2 := lB BKb2 hb; replace BKb5 := lB BKb5 hb; replace BKb7 := lB BKb7 hb; replace HQ := lR HQ hb; replace HB := lS HB hb; clear hb; obtain ⟨hz72_0, hz72_1, hz72_2, hz72_3, hz72_4, hz72_5⟩ := cS6 BKb7; have hf72_ := fz BKb7) | ((with_reducible refine gate_store (p := 2) rfl ?_); refine store_event rfl rfl (w1 := ?w20_n19) ?w20_r19 ?_; (case w20_r19 => (obtain ⟨hz0, hz1, hz2, hz3, hz4, hz5⟩ := cS6 BKb2; have hf := fz BKb2; go_simp; rfl)); generalize hW : World.setCell _ ⟨b2, 5, none⟩ _ = w21_; replace BKb5 := fS6 hW BKb5 Nb5b2; replace BKb7 := fS6 hW BKb7 Nb7b2; replace HQ := rS6 hW HQ BKb2 (by decide); replace BKb2 := pS6 hW BKb2; replace HB := sS6 hW HB GEb2; clear hW))
   refine bodyPost_ret (results_ct rfl _ _ b2 24 #[.int .i64 K, .int .i64 d, .int .i64 (0 : Int), .slice Aq q.length cq, .string (⟨#[]⟩ : ByteArray), .string (⟨#[]⟩ : ByteArray)] (0, 0) _ rfl BKb2.out Tryz.underlying24 rfl (by kernel_rfl)) rfl ?_
   exact ⟨_, rfl, HQ.out, HB.out⟩
  ·rw [if_neg hct] at h
   have t1 : (ct.toList != t.toList) = true := by simpa using hct
   have t2 : (ct.toList == t.toList) = false := by simpa using hct
   clear hct
   simp only [Option.some.injEq, Prod.mk.injEq] at h
   obtain ⟨rfl, rfl, rfl, rfl, rfl, rfl, rfl⟩ := h
   go_wp2_with (first | ((with_reducible refine gate_callee (f := 33) rfl ?_); refine goM (some 63) Tryz.func33 #[.agg #[.int .i64 K, .int .i64 d, .int .i64 (0 : Int), .slice Aq q.length cq, .string (⟨#[]⟩ : ByteArray), .string (⟨#[]⟩ : ByteArray)]] ?_; refine (impl_CallOK.calls k K d (0 : Int) Aq cq q (⟨#[]⟩ : ByteArray) (⟨#[]⟩ : ByteArray) _ _ (Kd.R_reads' HQ.out).2.2 (Kd.R_reads' HQ.out).2.1 HXo.out).mono ?_; rintro e w18_ ⟨rfl, hb⟩; refine ⟨_, rfl, ?_⟩; replace BKb2 := lB BKb2 hb; replace BKb5 := lB BKb5 hb; replace BKb7 := lB BKb7 hb; replace HQ := lR HQ hb; replace HB := lS HB hb; clear hb; obtain ⟨hz66_0, hz66_1, hz66_2, hz66_3, hz66_4, hz66_5⟩ := cS6 BKb7; have hf66_ := fz BKb7) | ((with_reducible refine gate_dst (N := 67) rfl ?_); (try (refine gate_guard (by rfl) ?_; dsimp only)); (with_reducible refine gate_callee (f := 34) rfl ?_); refine goM (some 67) Tryz.func34 #[.agg #[.int .i64 K, .int .i64 d, .int .i64 (0 : Int), .slice Aq q.length cq, .string (⟨#[]⟩ : ByteArray), .string (⟨#[]⟩ : ByteArray)]] ?_; refine (impl_callText.calls k K d (0 : Int) Aq cq q (⟨#[]⟩ : ByteArray) (⟨#[]⟩ : ByteArray) ct _ (HG.out.below HB.out) (Kd.R_reads' HQ.out).2.2 (Kd.R_reads' HQ.out).2.1 HXt.out).mono ?_; rintro e w19_ ⟨rfl, hb⟩; refine ⟨_, rfl, ?_⟩; replace BKb2 := lB BKb2 hb; replace BKb5 := lB BKb5 hb; replace BKb7 := lB BKb7 hb; replace HQ := lR HQ hb; replace HB := lS HB hb; clear hb) | ((with_reducible refine gate_store (p := 2) rfl ?_); refine store_event rfl rfl (w1 := ?w20_n20) ?w20_r20 ?_; (case w20_r20 => (obtain ⟨hz0, hz1, hz2, hz3, hz4, hz5⟩ := cS6 BKb2; have hf := fz BKb2; go_simp; rfl)); generalize hW : World.setCell _ ⟨b2, 5, none⟩ _ = w21_; replace BKb5 := fS6 hW BKb5 Nb5b2; replace BKb7 := fS6 hW BKb7 Nb7b2; replace HQ := rS6 hW HQ BKb2 (by decide); replace BKb2 := pS6 hW BKb2; replace HB := sS6 hW HB GEb2; clear hW))
   refine bodyPost_ret (results_ct rfl _ _ b2 24 #[.int .i64 0, .int .i64 0, .int .i64 0, .slice none 0 0, .string (⟨#[]⟩ : ByteArray), .string (⟨#[]⟩ : ByteArray)] (0, 0) _ rfl BKb2.out Tryz.underlying24 rfl (by kernel_rfl)) rfl ?_
   exact ⟨_, rfl, Kd.R_nil _ _ _ _ _, HB.out⟩
end Go.Proofs.YtfjnlliilnmfaaaGreatDoor.RF
end
