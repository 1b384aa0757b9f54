/-
  CONTRACTS PROVED BY HAND over the shelf's contracts of Go's library: strings.Split, strconv's parts, impl.number; what the package-level variables hold (GW).
-/
import Derived.Test.YtanlfhhliogmjaaDoorGa
import Derived.Test.YtanlfhhliogmjaaDoorSh
set_option linter.unusedVariables false
set_option linter.unusedSimpArgs false
namespace Go.Proofs.YtanlfhhliogmjaaDoor.Given
open Go.RowKit Go.Proofs.YtanlfhhliogmjaaDoorW.PrintWords Go.Proofs.YtanlfhhliogmjaaDoorW.PrintLast Go.Proofs.YtanlfhhliogmjaaDoorW.PrintMore

/-- What the package-level variables hold that the library reads. -/
structure GW (w : World) : Prop where
  maxLen : ∃ m, w.cell? ⟨0, 0, none⟩ = some (.int .i64 m)
  tab : Lib.TabIs Tryd.prog w "internal/strconv.uint64pow10" .u64 Lib.pow10Tab
  noForm : ∃ te pe, w.cell? ⟨1, 0, none⟩ = some (.iface te pe)
  noRange : ∃ te pe, w.cell? ⟨2, 0, none⟩ = some (.iface te pe)
theorem var_below {P : Program} {w w1 : World} {s : String} {cs : Array Value} (h : w.var? P s = some cs) (hb : Below w.heap.size w w1) : w1.var? P s = some cs := by
  unfold World.var? at h ⊢
  obtain ⟨g, hg, h⟩ := Option.bind_eq_some_iff.1 h
  rw [hg]
  simp only [Option.bind_some]
  have hlt : g < w.heap.size := by
    rcases Nat.lt_or_ge g w.heap.size with hl | hl
    · exact hl
    · rw [Array.getElem?_eq_none hl] at h
      cases h
  rw [hb.block g hlt]
  exact h
theorem GW.below {w w1 : World} (h : GW w) (hb : Below w.heap.size w w1) : GW w1 := by
  obtain ⟨⟨m, h1⟩, h2, ⟨te, pe, h3⟩, ⟨te', pe', h4⟩⟩ := h
  exact ⟨⟨m, pw_cell_below hb h1⟩, var_below h2 hb, ⟨te, pe, pw_cell_below hb h3⟩, ⟨te', pe', pw_cell_below hb h4⟩⟩
theorem GW.drewN {w : World} (h : GW w) (n : Nat) : GW (w.drewN n) := h.below (pw_below_drewN (Below.refl _ _) n)

/-! ### strings.Split -/
def strings_Split.f (a0 a1 : ByteArray) : Option (List ByteArray) := if a1.size = 1 ∧ a0.size ≤ 1000000000 then some (Lib.splitB a1 0 (Lib.countB a0 a1) a0) else none
theorem countB_le1 (s sep : ByteArray) (h1 : 1 ≤ sep.size) : Lib.countB s sep ≤ s.size := Lib.countB_le sep h1 s.size s (Nat.le_refl _)
theorem strings_Split.calls (a0 : ByteArray) (a1 : ByteArray) (r : List ByteArray) (w : World) (gw : GW w) (h : strings_Split.f a0 a1 = some r) :
    Calls Tryd.prog 17 #[.string a0, .string a1] w fun e w' => ∃ v0_ : Value, e = .returned v0_ ∧ Kd.R Kd.string 9 w' w.heap.size (fun _ => True) v0_ r ∧ Below w.heap.size w w' := by
  unfold strings_Split.f at h
  by_cases hc : a1.size = 1 ∧ a0.size ≤ 1000000000
  · rw [if_pos hc] at h
    obtain rfl := Option.some.inj h
    obtain ⟨m, hm⟩ := gw.maxLen
    have h1 : 1 ≤ a1.size := by omega
    refine (Tryd.strings_Split a0 a1 m w (by omega) hm h1).mono ?_
    rintro e w' ⟨rfl, rfl⟩
    have hlen : (Lib.splitB a1 0 (Lib.countB a0 a1) a0).length = Lib.countB a0 a1 + 1 := Lib.splitB_all a1 h1 0 _ a0 rfl
    have hle := countB_le1 a0 a1 h1
    have ho := own_lit_of (enc := Value.string) w w.heap.size 9 (Lib.splitB a1 0 (Lib.countB a0 a1) a0) (Nat.le_refl _) (by omega)
    refine ⟨_, rfl, ?_, below_alloc (Below.refl _ _) _⟩
    rw [← hlen]
    exact Kd.R_of_own (h1 := fun _ => rfl) ho (fun _ _ => trivial)
  · rw [if_neg hc] at h
    cases h

/-! ### strconv.Atoi, Itoa: what they give; impl.number -/
theorem itoa_below {w w' : World} (h : ∃ k os, w' = Go.Sort.grow (w.drewN k) os) : Below w.heap.size w w' := by
  obtain ⟨k, os, rfl⟩ := h
  exact ⟨rfl, rfl, rfl, by show w.heap.size ≤ ((w.drewN k).heap ++ os).size; rw [Array.size_append]; exact Nat.le_add_right _ _, fun _ hj => Go.Sort.heap_grow_old (w.drewN k) os hj⟩
theorem atoi_ok_range {l : List UInt8} {v : Int} (h : Lib.atoiAll l = .ok v) : -9223372036854775808 ≤ v ∧ v ≤ 9223372036854775807 := by
  unfold Lib.atoiAll at h
  split at h
  · cases h
  · simp only at h
    split at h
    · cases h
    · cases h
    · split at h
      · cases h
      · split at h
        · cases h
        · injection h with h
          subst h
          split <;> omega
def atoiV (l : List UInt8) : Int := match Lib.atoiAll l with
  | .ok v => v
  | .range => Lib.atoiSat l
  | _ => 0
def atoiOk (l : List UInt8) : Bool := match Lib.atoiAll l with
  | .ok _ => true
  | _ => false
theorem strconv_Itoa.calls' (n : Int) (w : World) (gw : GW w) (h0 : -9223372036854775808 ≤ n) (h1 : n ≤ 9223372036854775807) :
    Calls Tryd.prog 24 #[.int .i64 n] w fun e w' => e = .returned (.string ⟨(Lib.itoa n).toArray⟩) ∧ Below w.heap.size w w' :=
  (Tryd.strconv_Itoa n h0 h1 w gw.tab).mono fun _ _ ⟨he, hw⟩ => ⟨he, itoa_below hw⟩
theorem bytes_below0 (w : World) (t : ByteArray) : Below w.heap.size w (Lib.bytesWorld w 5 t) := bytes_below (Below.refl _ _) (Nat.le_refl _) _ _
theorem strconv_Atoi_good (s : ByteArray) (w : World) (gw : GW w) (hs : s.size ≤ 1000000000) (h : atoiOk s.data.toList = true) :
    Calls Tryd.prog 23 #[.string s] w fun e w' => e = .returned (.tuple #[.int .i64 (atoiV s.data.toList), .nilIface]) ∧ Below w.heap.size w w' := by
  unfold atoiOk at h
  unfold atoiV
  cases hr : Lib.atoiAll s.data.toList
  · rename_i v
    refine (Tryd.strconv_Atoi_ok s (by omega) v hr w).mono ?_
    rintro e w' ⟨rfl, hw⟩
    refine ⟨rfl, ?_⟩
    rcases hw with rfl | ⟨t, rfl⟩
    · exact Below.refl _ _
    · exact bytes_below0 w t
  · rw [hr] at h; cases h
  · rw [hr] at h; cases h
theorem strconv_Atoi_none (s : ByteArray) (w : World) (gw : GW w) (hs : s.size ≤ 1000000000) (h : atoiOk s.data.toList = false) :
    Calls Tryd.prog 23 #[.string s] w fun e w' => ∃ te pe, e = .returned (.tuple #[.int .i64 (atoiV s.data.toList), .iface te pe]) ∧ Below w.heap.size w w' := by
  unfold atoiOk at h
  unfold atoiV
  obtain ⟨_, _, ⟨te, pe, h3⟩, ⟨te', pe', h4⟩⟩ := gw
  cases hr : Lib.atoiAll s.data.toList
  · rw [hr] at h; cases h
  · refine Calls.mono (show Calls Tryd.prog 23 #[.string s] w _ from Any.strconv_Atoi_syntax Tryd.laysC172 s (by omega) hr _ w h3 (.inr ⟨_, _, rfl⟩)) ?_
    rintro e w' ⟨N, rfl, _, _, hb⟩
    exact ⟨_, _, rfl, hb⟩
  · refine Calls.mono (show Calls Tryd.prog 23 #[.string s] w _ from Any.strconv_Atoi_range Tryd.laysC172 s (by omega) hr _ w h4 (.inr ⟨_, _, rfl⟩)) ?_
    rintro e w' ⟨N, rfl, _, _, hb⟩
    exact ⟨_, _, rfl, hb⟩
def impl_number.f (a0 : ByteArray) : Option (Int × Bool) := if a0.size ≤ 1000000000 then some (atoiV a0.data.toList, atoiOk a0.data.toList && (Lib.itoa (atoiV a0.data.toList) == a0.toList && decide ((Lib.trimPrefix a0.data.toList [45]).length ≤ 18))) else none
theorem atoiV_range {l : List UInt8} (h : atoiOk l = true) : -9223372036854775808 ≤ atoiV l ∧ atoiV l ≤ 9223372036854775807 := by
  unfold atoiOk at h
  unfold atoiV
  cases hr : Lib.atoiAll l
  · exact atoi_ok_range hr
  · rw [hr] at h; cases h
  · rw [hr] at h; cases h
set_option maxHeartbeats 1000000 in
theorem number_bad (a0 : ByteArray) (w : World) (gw : GW w) (hs : a0.size ≤ 1000000000) (h : atoiOk a0.data.toList = false) :
    Calls Tryd.prog 18 #[.string a0] w fun e w' => e = .returned (.tuple #[.int .i64 (atoiV a0.data.toList), .bool false]) ∧ Below w.heap.size w w' := by
  have H := Aside0.mk (strconv_Atoi_none a0 w gw hs h)
  clear h
  generalize atoiV a0.data.toList = v at H ⊢
  go_enter Tryd.func18, Tryd.ntmps18
  go_wp2_with (go_at_call 23; refine H.out.mono ?_; rintro e w' ⟨te, pe, rfl, hb⟩)
  go_ret2
  exact ⟨rfl, by assumption⟩
set_option maxHeartbeats 1000000 in
theorem number_good (a0 : ByteArray) (w : World) (gw : GW w) (hs : a0.size ≤ 1000000000) (h : atoiOk a0.data.toList = true) :
    Calls Tryd.prog 18 #[.string a0] w fun e w' => e = .returned (.tuple #[.int .i64 (atoiV a0.data.toList), .bool (Lib.itoa (atoiV a0.data.toList) == a0.toList && decide ((Lib.trimPrefix a0.data.toList [45]).length ≤ 18))]) ∧ Below w.heap.size w w' := by
  have H := Aside0.mk (strconv_Atoi_good a0 w gw hs h)
  have HV := Aside0.mk (atoiV_range h)
  have HW := Aside0.mk gw
  clear h gw
  generalize hv : atoiV a0.data.toList = v at H HV ⊢
  clear hv
  cases hq : Lib.itoa v == a0.toList
  · have hq' : ¬ (Lib.itoa v = a0.toList) := by simpa using hq
    go_enter Tryd.func18, Tryd.ntmps18
    go_wp2_with (first | (go_at_call 23; refine H.out.mono ?_; rintro e w' ⟨rfl, hb⟩; have HB := Aside0.mk hb; clear hb) | (go_at_call 24; refine (strconv_Itoa.calls' v _ (HW.out.below HB.out) HV.out.1 HV.out.2).mono ?_; rintro e w' ⟨rfl, hb2⟩; have HB2 := Aside0.mk hb2; clear hb2))
    go_ret2
    exact ⟨rfl, below_then HB.out HB.out.size HB2.out⟩
  · have hq' : Lib.itoa v = a0.toList := by simpa using hq
    have HI := Aside0.mk (fun W hb => strconv_Itoa.calls' v W (HW.out.below hb) HV.out.1 HV.out.2)
    simp only [hq'] at HI
    clear hq hq'
    go_enter Tryd.func18, Tryd.ntmps18
    go_wp2_with (first | (go_at_call 23; refine H.out.mono ?_; rintro e w' ⟨rfl, hb⟩; have HB := Aside0.mk hb; clear hb) | (go_at_call 24; refine (HI.out _ HB.out).mono ?_; rintro e w' ⟨rfl, hb2⟩; have HB2 := Aside0.mk hb2; clear hb2) | (go_at_call 25; refine (Tryd.strings_TrimPrefix _ _ _).mono ?_; rintro e w' ⟨rfl, rfl⟩))
    go_ret2
    exact ⟨by first | rfl | (simp; done) | (simp; omega), below_then HB.out HB.out.size HB2.out⟩
theorem impl_number.calls (a0 : ByteArray) (r1 : Int) (r2 : Bool) (w : World) (gw : GW w) (h : impl_number.f a0 = some (r1, r2)) :
    Calls Tryd.prog 18 #[.string a0] w fun e w' => e = .returned (.tuple #[.int .i64 r1, .bool r2]) ∧ Below w.heap.size w w' := by
  unfold impl_number.f at h
  by_cases hs : a0.size ≤ 1000000000
  · rw [if_pos hs] at h
    simp only [Option.some.injEq, Prod.mk.injEq] at h
    obtain ⟨rfl, rfl⟩ := h
    cases ho : atoiOk a0.data.toList
    · exact (number_bad a0 w gw hs ho)
    · exact (number_good a0 w gw hs ho)
  · rw [if_neg hs] at h
    cases h
end Go.Proofs.YtanlfhhliogmjaaDoor.Given
