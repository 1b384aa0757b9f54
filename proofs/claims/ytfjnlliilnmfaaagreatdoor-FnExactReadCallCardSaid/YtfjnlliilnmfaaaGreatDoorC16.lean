/-
  WRITTEN BY wip/tools/prune.py out of this claim's texts: the declarations that the theorem comes to, and no others. In it: PureReadCall, RowReadCall.
-/
import Derived.Test.YtfjnlliilnmfaaaGreatDoorCards
import Derived.Test.YtfjnlliilnmfaaaGreatDoorTie
import Derived.WalkKit
import Derived.ProofKit
import Derived.OpenShut
import Derived.ShutString
import Derived.ChangeOld
import Derived.Below
import Derived.SizedLaws
import Derived.Lay
import Derived.LaidMore
import Derived.LaidLaws
import Derived.Lib.LaidU8
import Derived.Shelf.Vars
import Derived.SevenTiedAt
import Derived.HandedShaped
import Derived.MakeChecks
import Derived.Test.YtfjnlliilnmfaaaGreatDoorC15
section
set_option linter.unusedVariables false
set_option linter.unusedSimpArgs false
namespace Go.Proofs.YtfjnlliilnmfaaaGreatDoor.PureReadCall
open Go Go.Lib Go.RowKit Go.Proofs.YtfjnlliilnmfaaaGreatDoor.PRCl Go.Proofs.YtfjnlliilnmfaaaGreatDoor.RC Go.Proofs.YtfjnlliilnmfaaaGreatDoor.RF Go.Proofs.YtfjnlliilnmfaaaGreatDoor.PureBlank Go.Proofs.YtfjnlliilnmfaaaGreatDoor.PureCall Go.Proofs.YtfjnlliilnmfaaaGreatDoor.PureRead Go.Proofs.YtfjnlliilnmfaaaGreatDoorW.PrintWords Go.Proofs.YtfjnlliilnmfaaaGreatDoorW.PrintLast Go.Proofs.YtfjnlliilnmfaaaGreatDoorW.PrintMore Go.Proofs.YtfjnlliilnmfaaaGreatDoor.Given Go.Proofs.YtfjnlliilnmfaaaGreatDoor.Plain
theorem eq_loop (l : List Int) (hn : l.length ≤ 1000000000000) : ∀ (d i : Nat), l.length - i = d → i ≤ l.length → Ev (fun k => laws_eqIntS.l0 k l l (i : Int)) true := by
  intro d
  induction d with
  | zero =>
    intro i hd hi
    refine Ev.step (f := fun _ => some true) (fun k => ?_) (Ev.now true)
    simp only [laws_eqIntS.l0]
    rw [if_neg (by omega)]
  | succ d ih =>
    intro i hd hi
    refine Ev.step (f := fun k => laws_eqIntS.l0 k l l ((i + 1 : Nat) : Int)) (fun k => ?_) (ih (i + 1) (by omega) (by omega))
    simp only [laws_eqIntS.l0]
    rw [if_pos (by omega), if_pos (by omega), if_pos (by omega), if_pos trivial, wrap_nat (by omega)]
theorem eq_same (l : List Int) (hn : l.length ≤ 1000000000000) : Ev (fun k => laws_eqIntS.f k l l) true := by
  refine Ev.congr (f := fun k => laws_eqIntS.l0 k l l ((0 : Nat) : Int)) (fun k => ?_) (eq_loop l hn l.length 0 rfl (by omega))
  unfold laws_eqIntS.f
  rw [if_pos rfl]
  rfl
def marks (n : Nat) : List Int := (List.range n).map fun j => ((j + 1 : Nat) : Int)
theorem marks_length (n : Nat) : (marks n).length = n := by simp [marks]
theorem marks_succ (n : Nat) : marks (n + 1) = marks n ++ [((n + 1 : Nat) : Int)] := by simp [marks, List.range_succ]
theorem mark_loop (l : List Int) (hn : l.length ≤ 1000000000000) : ∀ (d i : Nat), l.length - i = d → i ≤ l.length →
    Ev (fun k => laws_markIntS.l0 k (marks i ++ l.drop i) ((i + 1 : Nat) : Int) (i : Int)) (((l.length + 1 : Nat) : Int), marks l.length) := by
  intro d
  induction d with
  | zero =>
    intro i hd hi
    have e : i = l.length := by omega
    subst e
    refine Ev.step (f := fun _ => some (((l.length + 1 : Nat) : Int), marks l.length)) (fun k => ?_) (Ev.now _)
    simp only [laws_markIntS.l0]
    rw [if_neg (by simp [marks_length])]
    simp
  | succ d ih =>
    intro i hd hi
    have hi' : i < l.length := by omega
    refine Ev.step (f := fun k => laws_markIntS.l0 k (marks (i + 1) ++ l.drop (i + 1)) ((i + 1 + 1 : Nat) : Int) ((i + 1 : Nat) : Int)) (fun k => ?_) (ih (i + 1) (by omega) (by omega))
    simp only [laws_markIntS.l0]
    have hl : (marks i ++ l.drop i).length = l.length := by simp [marks_length]; omega
    rw [if_pos (by rw [hl]; omega), if_pos (by omega), wrap_nat (by omega), wrap_nat (by omega)]
    congr 1
    rw [Int.toNat_natCast, marks_succ, List.drop_eq_getElem_cons hi', List.set_append_right _ _ (by rw [marks_length]; exact Nat.le_refl _), marks_length, Nat.sub_self]
    simp only [List.set_cons_zero, List.append_assoc, List.singleton_append]
theorem mark_all (l : List Int) (hn : l.length ≤ 1000000000000) : Ev (fun k => laws_markIntS.f k l 1) (((l.length + 1 : Nat) : Int), marks l.length) := by
  refine Ev.congr (f := fun k => laws_markIntS.l0 k (marks 0 ++ l.drop 0) ((0 + 1 : Nat) : Int) ((0 : Nat) : Int)) (fun k => ?_) (mark_loop l hn l.length 0 rfl (by omega))
  unfold laws_markIntS.f
  rfl
theorem rd_marks (n i : Nat) (h : i < n) : rd (marks n) (i : Int) = ((i + 1 : Nat) : Int) := by
  simp [rd, marks, List.getD_eq_getElem?_getD, h]
theorem held_loop (n : Nat) (hn : n ≤ 1000000000000) : ∀ (d i : Nat), n - i = d → i ≤ n → Ev (fun k => laws_heldIntS.l0 k (marks n) ((i + 1 : Nat) : Int) (i : Int)) ((n + 1 : Nat) : Int) := by
  intro d
  induction d with
  | zero =>
    intro i hd hi
    have e : i = n := by omega
    subst e
    refine Ev.step (f := fun _ => some ((i + 1 : Nat) : Int)) (fun k => ?_) (Ev.now _)
    simp only [laws_heldIntS.l0]
    rw [if_neg (by simp [marks_length])]
  | succ d ih =>
    intro i hd hi
    refine Ev.step (f := fun k => laws_heldIntS.l0 k (marks n) ((i + 1 + 1 : Nat) : Int) ((i + 1 : Nat) : Int)) (fun k => ?_) (ih (i + 1) (by omega) (by omega))
    simp only [laws_heldIntS.l0]
    rw [if_pos (by rw [marks_length]; omega), if_pos (by omega), if_pos (rd_marks n i (by omega)), wrap_nat (by omega), wrap_nat (by omega)]
theorem held_all (n : Nat) (hn : n ≤ 1000000000000) : Ev (fun k => laws_heldIntS.f k (marks n) 1) ((n + 1 : Nat) : Int) := by
  refine Ev.congr (f := fun k => laws_heldIntS.l0 k (marks n) ((0 + 1 : Nat) : Int) ((0 : Nat) : Int)) (fun k => ?_) (held_loop n hn n 0 rfl (by omega))
  unfold laws_heldIntS.f
  rfl
abbrev R7 := Int × Int × Int × List Int × ByteArray × ByteArray × Int
def toldE (o : Option C6) : R7 := match o with
  | some c => (c.1, c.2.1, c.2.2.1, c.2.2.2.1, c.2.2.2.2.1, c.2.2.2.2.2, 0)
  | none => (0, 0, 0, [], ⟨#[]⟩, ⟨#[]⟩, 3)
def callR (t : ByteArray) : R7 := if t.size > 65536 then (0, 0, 0, [], ⟨#[]⟩, ⟨#[]⟩, 2) else toldE (readP t.data.toList)
theorem spec_call (t : ByteArray) : Ev (fun k => spec_ReadCall.f k t) (callR t) := by
  unfold spec_ReadCall.f callR
  by_cases hs : t.size > 65536
  · rw [if_pos hs]
    exact Ev.congr (f := fun _ => some (0, 0, 0, [], ⟨#[]⟩, ⟨#[]⟩, (2 : Int))) (fun k => by rw [if_pos (by omega)]) (Ev.now _)
  · rw [if_neg hs]
    obtain ⟨r, h1, h2⟩ := spec_read t (by omega)
    refine Ev.congr (f := fun k => (spec_l12ReadCall.f k t).bind fun b => if b.2.2.2.2.2.2 = true then some (b.1, b.2.1, b.2.2.1, b.2.2.2.1, b.2.2.2.2.1, b.2.2.2.2.2.1, 0) else some (0, 0, 0, ([] : List Int), (⟨#[]⟩ : ByteArray), (⟨#[]⟩ : ByteArray), 3)) (fun k => by rw [if_neg (by omega)]) (Ev.bind h1 ?_)
    rw [← h2]
    unfold toldC
    split
    · exact Ev.now _
    · exact Ev.now _
theorem impl_call (t : ByteArray) : Ev (fun k => impl_ReadCall.f k t) (callR t) := by
  have hlong : impl_isLong.f [t] = some (decide (65536 < t.size)) := by simp [impl_isLong.f, longS]
  unfold impl_ReadCall.f callR
  refine Ev.bind ⟨0, fun _ _ => hlong⟩ ?_
  by_cases hs : t.size > 65536
  · simp only [hs, decide_true, if_true]
    exact Ev.now _
  · simp only [hs, decide_false, Bool.false_eq_true, if_false]
    refine Ev.bind (impl_read t (by omega)) ?_
    cases readP t.data.toList with
    | none => exact Ev.now _
    | some c => exact Ev.now _
theorem callR_length (t : ByteArray) : (callR t).2.2.2.1.length ≤ 10 := by
  unfold callR
  split
  · simp
  · cases h : readP t.data.toList with
    | none => simp [toldE]
    | some c => exact (okc_parts (read_ok h).1).2.2.1
theorem ReadCall : laws_FnExactReadCall.Pure := by
  intro s hn
  apply Ev.rounds (g := fun k => laws_FnExactReadCall.f k s)
  unfold laws_FnExactReadCall.f
  by_cases hs : (s.size : Int) > 1048576
  · exact Ev.congr (f := fun _ => some true) (fun k => by rw [if_pos hs]) (Ev.now _)
  · refine Ev.congr (fun k => by rw [if_neg hs]) ?_
    have hr := callR_length s
    have h1 := spec_call s
    have h2 := impl_call s
    rcases hp : callR s with ⟨K, D, C, l, N, T, c⟩
    rw [hp] at h1 h2 hr
    have hl : l.length ≤ 1000000000000 := by simp only at hr; omega
    have heq := eq_same l hl
    have hmark := mark_all l hl
    have hheld := held_all l.length hl
    have hcall : Ev (fun k => laws_eqCall.f k K D C l N T K D C l N T) true := by
      unfold laws_eqCall.f
      refine Ev.congr (f := fun k => (laws_eqIntS.f k l l).bind fun t => if t = true then some true else some false) (fun k => by simp) (Ev.bind heq (Ev.now _))
    have hmk : Ev (fun k => laws_markCall.f k K D C l N T 1) (((l.length + 1 : Nat) : Int), marks l.length) := by
      unfold laws_markCall.f
      exact Ev.bind hmark (Ev.now _)
    have hhd : Ev (fun k => laws_heldCall.f k K D C (marks l.length) N T 1) ((l.length + 1 : Nat) : Int) := by
      unfold laws_heldCall.f
      exact Ev.bind hheld (Ev.congr (f := fun _ => some ((l.length + 1 : Nat) : Int)) (fun k => by rw [if_neg (by omega)]) (Ev.now _))
    refine Ev.bind h1 (Ev.bind h2 (Ev.bind hcall ?_))
    have hne : (c != c) = false := by simp
    simp only [if_true, hne]
    refine Ev.step (f := fun k => (laws_markCall.f k K D C l N T 1).bind fun b => (laws_heldCall.f k K D C b.2 N T 1).bind fun t => if t < 0 then some false else if t = b.1 then (impl_ReadCall.f k s).bind fun b2 => (laws_eqCall.f k b2.1 b2.2.1 b2.2.2.1 b2.2.2.2.1 b2.2.2.2.2.1 b2.2.2.2.2.2.1 K D C l N T).bind fun t2 => if t2 = true then laws_FnExactReadCall.j1 k b.1 (b2.2.2.2.2.2.2 != c) K D C b.2 N T else laws_FnExactReadCall.j1 k b.1 true K D C b.2 N T else some false) (fun k => by simp only [laws_FnExactReadCall.j0]; rw [if_neg (by decide)]) ?_
    refine Ev.bind hmk (Ev.bind hhd ?_)
    refine Ev.congr (fun k => by rw [if_neg (by omega), if_pos rfl]) ?_
    refine Ev.bind h2 (Ev.bind hcall ?_)
    simp only [if_true, hne]
    refine Ev.step (f := fun k => (laws_heldCall.f k K D C (marks l.length) N T 1).bind fun t => if t < 0 then some false else if t = ((l.length + 1 : Nat) : Int) then some true else some false) (fun k => by simp only [laws_FnExactReadCall.j1]; rw [if_neg (by decide)]) ?_
    refine Ev.bind hhd ?_
    exact Ev.congr (f := fun _ => some true) (fun k => by rw [if_neg (by omega), if_pos rfl]) (Ev.now _)
end Go.Proofs.YtfjnlliilnmfaaaGreatDoor.PureReadCall
end
section
set_option linter.unusedVariables false
namespace Go.Proofs.YtfjnlliilnmfaaaGreatDoor.RowReadCall
open Go Go.ChangeShapes Go.WideShapes Go.ChangeAt Go.RowKit Go.Lib Go.Proofs.YtfjnlliilnmfaaaGreatDoor.Given
open Go.ChangeMaps (open_string shut_string)
theorem own : ownKnob Tryz.prog.godebug = none := by kernel_rfl
theorem ret_all {H : Type} {enc : TypeId × Value → H} {C : Checked} {os : Os} {f : FuncId} {fn : Func} {s : ChangeSpec} {conds : List PathCond} {apart fresh handsOn again : Bool} {X : World → Array Value → Prop}
    (hX : ∀ (w w' : World) (args : Array Value), w.heap = w'.heap → X w args → X w' args)
    (own : ownKnob C.prog.godebug = none) (started : os.Started) (noInit : C.prog.inits.idxOf? f = none) (hfn : C.prog.funcs[f]? = some fn)
    (witness : ∃ (w : World) (tape : Tape) (i : Input), w.os = os ∧ (w.forCall tape i).Shaped C.prog ∧ i.vars = [] ∧ Input.okWide C.prog (w.forCall tape i) .any w.heap.size f i ∧
      ((s.pre enc C.prog fn conds apart (w.forCall tape i).memory i.args ∧ X (w.forCall tape i).memory i.args) ∧ sizedMet enc C.prog fn (OpenSpec.ofChange s) apart (w.forCall tape i).memory i.args) ∧ Assume.holds {} C.prog (lone (Frame.enter C.prog f i.args .normal) [] (w.forCall tape i)))
    (contract : ∀ (W : World) (base : Nat) (args : Array Value) (ds gs : List (DataW H)) (before : List MemPlace),
      (∀ (j : Nat) t v, fn.params[j]? = some t → args[j]? = some v → Value.okWide C.prog W .any base t v) →
      DataW.Whole enc C.prog fn.params.toList s.vars apart W args.toList ds gs before →
      (DataW.weightsEach C.prog (fn.params.toList ++ s.plain.varTypes C.prog) (ds ++ gs)).all (· ≤ reachBytes) = true → X W args → W.ShapedOpen C.prog →
      Calls C.prog f args W fun e W' => ∃ v, e = .returned v ∧ s.post enc C.prog fn apart fresh handsOn again W args v W') :
    ReturnsInHanded {} C os f .any (fun w args => (s.pre enc C.prog fn conds apart w args ∧ X w args) ∧ sizedMet enc C.prog fn (OpenSpec.ofChange s) apart w args) (s.post enc C.prog fn apart fresh handsOn again) := by
  refine returnsInHanded_of_calls own started noInit witness ?_
  intro w tape i _ hsh _ hok hpre _
  obtain ⟨_, _, _, fn', hfn', _, _, _, _, hval⟩ := hok
  have e : fn' = fn := Option.some.inj (hfn'.symm.trans hfn)
  subst e
  obtain ⟨⟨⟨ds, gs, before, hw, hc⟩, hx⟩, hz⟩ := hpre
  have hw' := DataW.Whole.of_heap (w' := w.forCall tape i) (by rfl) hw
  refine (contract (w.forCall tape i) w.heap.size i.args ds gs before hval hw' (hz.weights hw) (hX _ _ _ (by rfl) hx) hsh).mono fun e W' ⟨v, he, hp⟩ => ?_
  subst he
  exact ChangeSpec.post_blind hp
theorem tab_of_reads {P : Program} {W : World} {name : String} {k : IntKind} {zs : List Int} {g : Nat} {t e : TypeId} {n : Nat}
    (hg : P.globalNamed name = some g) (hty : (P.globals[g]?).map (·.type) = some t) (ht : P.underlying t = some (.array n e)) (he : P.underlying e = some (.int k)) (hce : P.cellsOf e = 1) (hct : P.cellsOf t = n)
    (h : VarReads P W name (tabData k zs)) : TabIs P W name k zs := by
  obtain ⟨g', t', cs, fuel, p, hg', ht', hvar, hd⟩ := h
  obtain rfl := Option.some.inj (hg.symm.trans hg')
  obtain rfl := Option.some.inj (hty.symm.trans ht')
  have := cells_of_tab ht he hce hct hd
  unfold TabIs
  rw [hvar, ← this]
theorem iface_of_reads {P : Program} {W : World} {name : String} {g : Nat} {t : TypeId} {ms : Array (String × TypeId)} {nm : String} {d : DataW Unit}
    (hg : P.globalNamed name = some g) (hty : (P.globals[g]?).map (·.type) = some t) (ht : P.underlying t = some (.interface ms))
    (h : VarReads P W name (.iface nm d)) : ∃ te pe, W.cell? ⟨g, 0, none⟩ = some (.iface te pe) := by
  obtain ⟨g', t', cs, fuel, p, hg', ht', hvar, hd⟩ := h
  obtain rfl := Option.some.inj (hg.symm.trans hg')
  obtain rfl := Option.some.inj (hty.symm.trans ht')
  obtain ⟨f1, u, v, hcs, _, _⟩ := iface_of_trod ht hd
  have := World.var?_cell hg hvar 0
  refine ⟨u, v, ?_⟩
  rw [Array.eq_one_of_toList hcs] at this
  simpa using this
theorem gw_of {W : World} (hL : laidMetH Tryz.prog Rows.fnExactReadCallRow.laid W) (hS : W.ShapedOpen Tryz.prog) : GW W := by
  rw [MakeChecks.laidMetH_plain _ _ _ (by kernel_rfl)] at hL
  refine ⟨?_, ?_, ?_, ?_⟩
  · exact cell_of_shapedOpen_int (t := 3) (zero := #[.int .i64 0]) hS (of_decide_eq_true (by kernel_rfl)) (by kernel_rfl) rfl (by kernel_rfl) (by kernel_rfl) Tryz.underlying3
  · exact tab_of_reads (P := Tryz.prog) (g := 3) (by kernel_rfl) (by kernel_rfl) Tryz.underlying112 Tryz.underlying91 (by kernel_rfl) (by kernel_rfl) (laidMet.reads hL (n := "internal/strconv.uint64pow10") (List.mem_of_getElem? (i := 2) (by kernel_rfl)))
  · exact iface_of_reads (P := Tryz.prog) (g := 1) (by kernel_rfl) (by kernel_rfl) Tryz.underlying57 (laidMet.reads hL (n := "strconv.ErrSyntax") (d := Rows.laid_strconv_ErrSyntax) (List.mem_of_getElem? (i := 5) (by kernel_rfl)))
  · exact iface_of_reads (P := Tryz.prog) (g := 2) (by kernel_rfl) (by kernel_rfl) Tryz.underlying57 (laidMet.reads hL (n := "strconv.ErrRange") (d := Rows.laid_strconv_ErrRange) (List.mem_of_getElem? (i := 4) (by kernel_rfl)))
set_option maxRecDepth 100000 in
theorem lifted (os : Os) (started : os.Started) (H : Type) (enc : TypeId × Value → H) :
    ReturnsInHanded {} Tryz.checked os 3 .any (fun w args => (Rows.fnExactReadCallSpec.pre enc Tryz.prog Tryz.f3 [] false w args ∧ laidMetH Tryz.prog Rows.fnExactReadCallRow.laid w) ∧ sizedMet enc Tryz.prog Tryz.f3 (OpenSpec.ofChange Rows.fnExactReadCallSpec) false w args)
      (Rows.fnExactReadCallSpec.post enc Tryz.prog Tryz.f3 false true false false) := by
  refine ret_all (C := Tryz.checked) (X := fun w _ => laidMetH Tryz.prog Rows.fnExactReadCallRow.laid w) (fun _ _ _ hh h => h.of_heap hh) own started (by kernel_rfl) Tryz.func3
    (ChangeSpec.witness_shaped (enc := enc) (C := Tryz.checked) (os := os) (X := fun w _ => laidMetH Tryz.prog Rows.fnExactReadCallRow.laid w) false (World.laidAll Tryz.prog os Rows.fnExactReadCallRow.laid) #[.string ByteArray.empty] 8 (World.laidAll_os _ _ _)
      (World.shaped_of_ZipB (by kernel_rfl) (by kernel_rfl)) (by kernel_rfl) (by kernel_rfl) (by kernel_rfl)
      (by rw [MakeChecks.laidMetH_plain _ _ _ (by kernel_rfl)]; exact laidMet_laidAll _ (by kernel_rfl) (by kernel_rfl))) ?_
  intro W base args ds gs before hval0 hW hsz0 hL hS
  have hsz : (DataW.weightsEach Tryz.prog (Tryz.f3.params.toList ++ Rows.fnExactReadCallSpec.plain.varTypes Tryz.prog) (ds ++ gs)).all (· ≤ reachBytes) = true := hsz0
  have hval : ∀ (j : Nat) t v, Tryz.f3.params[j]? = some t → args[j]? = some v → Value.okWide Tryz.prog W .any base t v := hval0
  have hW' := hW
  obtain ⟨p, q, hA0, hV, rfl, hfz, hnd⟩ := hW
  have hA : DataW.TrodAll enc Tryz.prog W 0 (fun _ => true) true Tryz.f3.params.toList args.toList ds p := hA0
  rw [Tryz.params3] at hA hval hsz
  obtain ⟨v0, vs0, d0, ds0, p0, q0, hargs, rfl, rfl, h0, r0⟩ := trodAll_cons hA
  obtain ⟨rfl, rfl, rfl⟩ := trodAll_nil r0
  obtain rfl : args = #[v0] := by cases args; simp_all
  obtain ⟨rfl, rfl⟩ := trodVars_none hV
  obtain ⟨a0, rfl, rfl, rfl, y0⟩ := open_string Tryz.underlying9 (hval 0 9 v0 rfl rfl) h0
  have w0 : a0.size ≤ 140737488351232 := by
    have z := sized_string hsz (j := 0) (t := 9) rfl rfl
    rw [Array.length_toList] at z
    exact z
  have gw := gw_of hL hS
  clear hA0 hval0 hsz0 hsz hL hS
  refine (PRCl.laws_FnExactReadCall.walk PureReadCall.ReadCall a0 W gw w0).mono fun e W' ⟨he, bel⟩ => ?_
  subst he
  exact ⟨_, rfl, _, _, _, [], _, [], hW', trodAll_mk1 (shut_bool Tryz.underlying4 _), (trodAll_cons_mk (shut_string Tryz.underlying9 y0) trodAll_mk0), rfl, bel.frame _, fun h => by cases h⟩
theorem over : Rows.FnExactReadCallSaid :=
  OpenClaim.holds_of_wide 3 Tryz.f3 rfl rfl rfl rfl rfl rfl rfl ⟨rfl, rfl, rfl, rfl, rfl⟩ rfl rfl rfl rfl rfl (by kernel_rfl) Tryz.func3 (by kernel_rfl)
    (of_decide_eq_true (by kernel_rfl)) (by unfold Func.isWrapper; first | (rw [if_pos (by decide +kernel)]; kernel_rfl) | (rw [if_neg (by decide +kernel)]; exact ⟨rfl, rfl⟩))
    (fun os started H enc _ => lifted os started H enc)
theorem card : Rows.FnExactReadCallCardSaid :=
  Claim7.holds_tied_plain_at .later [] [.data, .data, .data, .data, .sentinel, .sentinel, .pinned] true (true, "611e6ded495d33be175f37ff15abc66a211af7347eb912f044cd31970f44c54d") true
    over (fun _ h => by cases h) (by kernel_rfl) (fun _ h => by cases h) fnExactReadCall_row_tie rfl ⟨rfl, rfl⟩ (by kernel_rfl) rfl
    (fun f fn hf hfn => by
      obtain rfl : f = 3 := Option.some.inj ((show Tryz.prog.funcNamed "loop.example/g00788/laws.FnExactReadCall" = some 3 by kernel_rfl).symm.trans hf) |>.symm
      obtain rfl : fn = Tryz.f3 := (Option.some.inj (Tryz.func3.symm.trans hfn)).symm
      exact ⟨by kernel_rfl, fun j t ht => by
        rw [Tryz.params3] at ht
        have hm : t ∈ [9] := by simpa using Array.mem_of_getElem? ht
        have hall : ([9].all fun u => !Tryz.prog.wantsStandIn u) = true := by kernel_rfl
        exact (show Tryz.prog.wantsStandIn t = false by simpa using List.all_eq_true.1 hall t hm)⟩)
    (by kernel_rfl)
#print axioms card
end Go.Proofs.YtfjnlliilnmfaaaGreatDoor.RowReadCall
end
