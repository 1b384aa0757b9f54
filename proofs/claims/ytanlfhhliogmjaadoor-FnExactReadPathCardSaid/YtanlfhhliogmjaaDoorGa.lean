/-
  CONTRACTS PROVED BY HAND, in the form of the printed ones: functions that hand a predicate to the library (slices.IndexFunc, ContainsFunc), impl.isLong, impl.isPath.
-/
import Derived.Test.YtanlfhhliogmjaaDoorProg
import Derived.Shelf.Abstract
import Derived.Below
import Derived.Deep.Draws
import Derived.Deep.AppendLies
import Derived.Maps.AppendAt
import Derived.OwnWalk
import Derived.Laws.BytesArg
import Derived.Laws.MakeOwn
import Derived.Laws.OwnMore
import Derived.Deep.OwnRows
import Derived.Tactics
import Derived.Lib.ConvBytes
import Derived.Laws.Slices
import Derived.WalkKit
import Derived.KernelRfl
import Derived.RowKit3
import Derived.Deep.LoopGhost
import Derived.Deep.QuietTactic
import Derived.BigQuiet
import Derived.WideLaws
import Derived.Deep.DeepCutAuto
import Derived.Deep.CutBlock
import Derived.Deep.RegionHeld3
import Derived.Laws.Rows
import Derived.Lib.AppendStr
import Derived.ArgAppend
import Derived.Laws.IdiomCopy
import Derived.OrdersHeld
import Derived.Laws.BitsLemmas
import Derived.RowKit
import Derived.Test.YtanlfhhliogmjaaDoorWWords
import Derived.Test.YtanlfhhliogmjaaDoorWLast
import Derived.Test.YtanlfhhliogmjaaDoorWTab
import Derived.Test.YtanlfhhliogmjaaDoorWFour
import Derived.Test.YtanlfhhliogmjaaDoorWQPut
import Derived.Test.YtanlfhhliogmjaaDoorWApart
import Derived.Test.YtanlfhhliogmjaaDoorWArr
import Derived.Test.YtanlfhhliogmjaaDoorWZeros
import Derived.Test.YtanlfhhliogmjaaDoorWFoot
import Derived.Test.YtanlfhhliogmjaaDoorWKept
import Derived.Test.YtanlfhhliogmjaaDoorWShare
import Derived.Test.YtanlfhhliogmjaaDoorWN
import Derived.Test.YtanlfhhliogmjaaDoorWFootNe
import Derived.Test.YtanlfhhliogmjaaDoorWAt
import Derived.Test.YtanlfhhliogmjaaDoorWEqStruct
import Derived.Test.YtanlfhhliogmjaaDoorWRepsOne
import Derived.Test.YtanlfhhliogmjaaDoorWInv
import Derived.Test.YtanlfhhliogmjaaDoorWInvWords
import Derived.Test.YtanlfhhliogmjaaDoorWGuard
import Derived.Test.YtanlfhhliogmjaaDoorWNEv
import Derived.Test.YtanlfhhliogmjaaDoorWMore
set_option linter.unusedVariables false
set_option linter.unusedSimpArgs false
namespace Go.Proofs.YtanlfhhliogmjaaDoor.Given
open Go.RowKit Go.Proofs.YtanlfhhliogmjaaDoorW.PrintWords Go.Proofs.YtanlfhhliogmjaaDoorW.PrintLast Go.Proofs.YtanlfhhliogmjaaDoorW.PrintMore

/-- The place of the first element that is so, -1 of none. -/
def idxP {α : Type} (p : α → Bool) : List α → Int
  | [] => -1
  | x :: r => if p x = true then 0 else if idxP p r = -1 then -1 else idxP p r + 1
theorem idxP_range {α : Type} (p : α → Bool) : ∀ l : List α, -1 ≤ idxP p l ∧ idxP p l < l.length
  | [] => by simp [idxP]
  | x :: r => by
    have h := idxP_range p r
    unfold idxP
    rw [List.length_cons]
    split
    · omega
    · split <;> omega
theorem idxP_hit {α : Type} (p : α → Bool) (d : α) : ∀ (l : List α) (k : Nat), k < l.length → p (l.getD k d) = true → (∀ j, j < k → p (l.getD j d) = false) → idxP p l = k
  | [], k, hk, _, _ => by simp at hk
  | x :: r, 0, _, h, _ => by
    have : p x = true := by simpa using h
    simp [idxP, this]
  | x :: r, k + 1, hk, h, hn => by
    have h0 : p x = false := by simpa using hn 0 (by omega)
    have ih := idxP_hit p d r k (by simpa using hk) (by simpa using h) (fun j hj => by simpa using hn (j + 1) (by omega))
    have h9 : ¬ ((k : Int) = -1) := by omega
    simp [idxP, h0, ih, h9]
theorem idxP_miss {α : Type} (p : α → Bool) (d : α) : ∀ l : List α, (∀ j, j < l.length → p (l.getD j d) = false) → idxP p l = -1
  | [], _ => rfl
  | x :: r, hn => by
    have h0 : p x = false := by simpa using hn 0 (by simp)
    have ih := idxP_miss p d r (fun j hj => by simpa using hn (j + 1) (by simpa using hj))
    simp [idxP, h0, ih]
theorem idxP_any {α : Type} (p : α → Bool) : ∀ l : List α, decide (0 ≤ idxP p l) = l.any p
  | [] => rfl
  | x :: r => by
    have h := idxP_range p r
    have ih := idxP_any p r
    unfold idxP
    rw [List.any_cons, ← ih]
    by_cases hp : p x = true
    · simp [hp]
    · simp only [Bool.not_eq_true] at hp
      simp only [hp, Bool.false_or]
      by_cases h1 : idxP p r = -1
      · simp [h1]
      · have : 0 ≤ idxP p r := by omega
        simp [h1, this]
        omega

set_option maxHeartbeats 2000000 in
theorem indexFunc_str (p : ByteArray → Bool) (g : Nat) (lb : Array Value) (eg : ∀ args w, (callFunc g args).run Tryd.prog w = .ok (.enter g args) w) (A : Option Addr) (c : Nat) (l : List ByteArray) (w : World)
    (hp : ∀ (x : ByteArray) (m : Nat), Calls Tryd.prog g (#[.string x] ++ lb) (w.drewN m) fun e w' => e = .returned (.bool (p x)) ∧ Drawn0 (w.drewN m) w')
    (hr : Kd.C Kd.string w A l.length l) :
    Calls Tryd.prog 21 #[.slice A l.length c, .func (.func g) #[] lb] w fun e w' => e = .returned (.int .i64 (idxP p l)) ∧ Drawn0 w w' := by
  have HR := Aside0.mk hr
  have hbig : l.length ≤ 9223372036854775807 := Kd.C_max hr
  have HP := Aside0.mk hp
  clear hr hp
  go_enter Tryd.func21, Tryd.ntmps21
  go_wp2
  go_loopg [5, 8] l.length (fun gg _ s8 wr => ∃ kk q : Nat, kk ≤ l.length ∧ l.length - kk ≤ gg ∧ s8 = .int .i64 kk ∧ wr = w.drewN q ∧ Aside0 (∀ j, j < kk → p (l.getD j ByteArray.empty) = false))
  case atStart => exact ⟨0, 0, Nat.zero_le _, by omega, rfl, rfl, ⟨fun j hj => absurd hj (Nat.not_lt_zero _)⟩⟩
  case round =>
    obtain ⟨kk, q, hkk, hg, rfl, rfl, A0⟩ := hrel
    by_cases hlt : kk < l.length
    · have hltz : (kk : Int) < (l.length : Int) := by omega
      have d1 : decide ((kk : Int) < (l.length : Int)) = true := decide_eq_true hltz
      have d2 : decide (kk < l.length) = true := decide_eq_true hlt
      obtain ⟨ad, e1, hcell⟩ := Kd.at_string HR.out (kk : Int) (by omega) hltz
      cases e1
      simp only [Int.toNat_natCast] at hcell
      generalize hy : rdOf ByteArray.empty l (kk : Int) = y at hcell
      have B : Aside0 (l.getD kk ByteArray.empty = y) := ⟨hy⟩
      clear hy
      have hcall := HP.out y
      cases hq : p y with
      | true =>
        rw [hq] at hcall
        go_wp2_with (go_at_fn g; refine (hcall _).mono ?_; rintro e w' ⟨rfl, ⟨q', rfl⟩⟩)
        go_ret
        exact ⟨by rw [idxP_hit p ByteArray.empty l kk hlt (by rw [B.out]; exact hq) A0.out]; rfl, by repeat (first | exact Drawn0.refl _ | apply Drawn0.step)⟩
      | false =>
        rw [hq] at hcall
        go_wp2_with (go_at_fn g; refine (hcall _).mono ?_; rintro e w' ⟨rfl, ⟨q', rfl⟩⟩)
        go_roundg (l.length - (kk + 1))
        case measure => omega
        case rel =>
          refine ⟨kk + 1, _, by omega, by omega, (by first | rfl | (refine congrArg _ ?_; omega) | (simp; omega)), rfl, ⟨fun j hj => ?_⟩⟩
          by_cases e : j = kk
          · subst e
            rw [B.out]; exact hq
          · exact A0.out j (by omega)
    · have d1 : decide ((kk : Int) < (l.length : Int)) = false := decide_eq_false (by omega)
      have d2 : decide (kk < l.length) = false := decide_eq_false hlt
      go_wp2
      go_ret
      have hkl : kk = l.length := by omega
      exact ⟨by rw [idxP_miss p ByteArray.empty l (by rw [← hkl]; exact A0.out)]; rfl, by repeat (first | exact Drawn0.refl _ | apply Drawn0.step)⟩

set_option maxHeartbeats 2000000 in
theorem containsFunc_str (p : ByteArray → Bool) (g : Nat) (lb : Array Value) (eg : ∀ args w, (callFunc g args).run Tryd.prog w = .ok (.enter g args) w) (A : Option Addr) (c : Nat) (l : List ByteArray) (w : World)
    (hp : ∀ (x : ByteArray) (m : Nat), Calls Tryd.prog g (#[.string x] ++ lb) (w.drewN m) fun e w' => e = .returned (.bool (p x)) ∧ Drawn0 (w.drewN m) w')
    (hr : Kd.C Kd.string w A l.length l) :
    Calls Tryd.prog 15 #[.slice A l.length c, .func (.func g) #[] lb] w fun e w' => e = .returned (.bool (l.any p)) ∧ Drawn0 w w' := by
  rw [← idxP_any]
  have HR := Aside0.mk hr
  have HP := Aside0.mk hp
  clear hr hp
  go_enter Tryd.func15, Tryd.ntmps15
  go_wp2_with (go_at_call 21; refine (indexFunc_str p g lb eg A c l _ HP.out HR.out).mono ?_; rintro e w' ⟨rfl, ⟨q, rfl⟩⟩)
  go_ret
  exact ⟨rfl, by repeat (first | exact Drawn0.refl _ | apply Drawn0.step)⟩

/-! ### impl.isLong -/
def longS (t : ByteArray) : Bool := decide (65536 < t.size)
def impl_isLong.f (l0 : List ByteArray) : Option Bool := some (l0.any longS)
theorem isLong_lit (x : ByteArray) (w : World) : Calls Tryd.prog 16 #[.string x] w fun e w' => e = .returned (.bool (longS x)) ∧ Drawn0 w w' := by
  unfold longS
  go_enter Tryd.func16, Tryd.ntmps16
  go_wp2
  go_ret
  exact ⟨by first | rfl | (simp; done) | (simp; omega), Drawn0.refl _⟩
theorem impl_isLong.calls (A0 : Option Addr) (c0 : Nat) (l0 : List ByteArray) (r : Bool) (w : World) (hr0 : Kd.C Kd.string w A0 l0.length l0) (hc0 : l0.length ≤ c0) (h : impl_isLong.f l0 = some r) :
    Calls Tryd.prog 10 #[.slice A0 l0.length c0] w fun e w' => e = .returned (.bool r) ∧ Drawn0 w w' := by
  obtain rfl := Option.some.inj h
  have HR := Aside0.mk hr0
  clear hr0 h
  go_enter Tryd.func10, Tryd.ntmps10
  go_wp2_with (go_at_call 15; refine (containsFunc_str longS 16 #[] (enters_of Tryd.func16 (by kernel_rfl) rfl) A0 c0 l0 _ (fun x m => isLong_lit x _) HR.out).mono ?_; rintro e w' ⟨rfl, ⟨q, rfl⟩⟩)
  go_ret
  exact ⟨rfl, by repeat (first | exact Drawn0.refl _ | apply Drawn0.step)⟩
set_option maxHeartbeats 2000000 in
theorem indexFunc_int (p : Int → Bool) (g : Nat) (lb : Array Value) (eg : ∀ args w, (callFunc g args).run Tryd.prog w = .ok (.enter g args) w) (A : Option Addr) (c : Nat) (l : List Int) (w : World)
    (hp : ∀ (x : Int) (m : Nat), Calls Tryd.prog g (#[.int .i64 x] ++ lb) (w.drewN m) fun e w' => e = .returned (.bool (p x)) ∧ Drawn0 (w.drewN m) w')
    (hr : Kd.C (Kd.int .i64) w A l.length l) :
    Calls Tryd.prog 36 #[.slice A l.length c, .func (.func g) #[] lb] w fun e w' => e = .returned (.int .i64 (idxP p l)) ∧ Drawn0 w w' := by
  have HR := Aside0.mk hr
  have hbig : l.length ≤ 9223372036854775807 := Kd.C_max hr
  have HP := Aside0.mk hp
  clear hr hp
  go_enter Tryd.func36, Tryd.ntmps36
  go_wp2
  go_loopg [5, 8] l.length (fun gg _ s8 wr => ∃ kk q : Nat, kk ≤ l.length ∧ l.length - kk ≤ gg ∧ s8 = .int .i64 kk ∧ wr = w.drewN q ∧ Aside0 (∀ j, j < kk → p (l.getD j (0 : Int)) = false))
  case atStart => exact ⟨0, 0, Nat.zero_le _, by omega, rfl, rfl, ⟨fun j hj => absurd hj (Nat.not_lt_zero _)⟩⟩
  case round =>
    obtain ⟨kk, q, hkk, hg, rfl, rfl, A0⟩ := hrel
    by_cases hlt : kk < l.length
    · have hltz : (kk : Int) < (l.length : Int) := by omega
      have d1 : decide ((kk : Int) < (l.length : Int)) = true := decide_eq_true hltz
      have d2 : decide (kk < l.length) = true := decide_eq_true hlt
      obtain ⟨ad, e1, hcell⟩ := Kd.at_int HR.out (kk : Int) (by omega) hltz
      cases e1
      simp only [Int.toNat_natCast] at hcell
      generalize hy : rd l (kk : Int) = y at hcell
      have B : Aside0 (l.getD kk (0 : Int) = y) := ⟨hy⟩
      clear hy
      have hcall := HP.out y
      cases hq : p y with
      | true =>
        rw [hq] at hcall
        go_wp2_with (go_at_fn g; refine (hcall _).mono ?_; rintro e w' ⟨rfl, ⟨q', rfl⟩⟩)
        go_ret
        exact ⟨by rw [idxP_hit p (0 : Int) l kk hlt (by rw [B.out]; exact hq) A0.out]; rfl, by repeat (first | exact Drawn0.refl _ | apply Drawn0.step)⟩
      | false =>
        rw [hq] at hcall
        go_wp2_with (go_at_fn g; refine (hcall _).mono ?_; rintro e w' ⟨rfl, ⟨q', rfl⟩⟩)
        go_roundg (l.length - (kk + 1))
        case measure => omega
        case rel =>
          refine ⟨kk + 1, _, by omega, by omega, (by first | rfl | (refine congrArg _ ?_; omega) | (simp; omega)), rfl, ⟨fun j hj => ?_⟩⟩
          by_cases e : j = kk
          · subst e
            rw [B.out]; exact hq
          · exact A0.out j (by omega)
    · have d1 : decide ((kk : Int) < (l.length : Int)) = false := decide_eq_false (by omega)
      have d2 : decide (kk < l.length) = false := decide_eq_false hlt
      go_wp2
      go_ret
      have hkl : kk = l.length := by omega
      exact ⟨by rw [idxP_miss p (0 : Int) l (by rw [← hkl]; exact A0.out)]; rfl, by repeat (first | exact Drawn0.refl _ | apply Drawn0.step)⟩

set_option maxHeartbeats 2000000 in
theorem containsFunc_int (p : Int → Bool) (g : Nat) (lb : Array Value) (eg : ∀ args w, (callFunc g args).run Tryd.prog w = .ok (.enter g args) w) (A : Option Addr) (c : Nat) (l : List Int) (w : World)
    (hp : ∀ (x : Int) (m : Nat), Calls Tryd.prog g (#[.int .i64 x] ++ lb) (w.drewN m) fun e w' => e = .returned (.bool (p x)) ∧ Drawn0 (w.drewN m) w')
    (hr : Kd.C (Kd.int .i64) w A l.length l) :
    Calls Tryd.prog 26 #[.slice A l.length c, .func (.func g) #[] lb] w fun e w' => e = .returned (.bool (l.any p)) ∧ Drawn0 w w' := by
  rw [← idxP_any]
  have HR := Aside0.mk hr
  have HP := Aside0.mk hp
  clear hr hp
  go_enter Tryd.func26, Tryd.ntmps26
  go_wp2_with (go_at_call 36; refine (indexFunc_int p g lb eg A c l _ HP.out HR.out).mono ?_; rintro e w' ⟨rfl, ⟨q, rfl⟩⟩)
  go_ret
  exact ⟨rfl, by repeat (first | exact Drawn0.refl _ | apply Drawn0.step)⟩

/-! ### impl.isPath -/
def badStep (i : Int) : Bool := !(decide (0 ≤ i) && decide (i ≤ 60))
def impl_isPath.f (l0 : List Int) : Option Bool := some (decide (l0.length ≤ 10) && !(l0.any badStep))
theorem isPath_lit (x : Int) (w : World) : Calls Tryd.prog 27 #[.int .i64 x] w fun e w' => e = .returned (.bool (badStep x)) ∧ Drawn0 w w' := by
  unfold badStep
  by_cases h : 0 ≤ x
  · have d1 : decide (0 ≤ x) = true := decide_eq_true h
    go_enter Tryd.func27, Tryd.ntmps27
    go_wp2
    go_ret
    exact ⟨by first | rfl | (simp [d1]; done), by repeat (first | exact Drawn0.refl _ | apply Drawn0.step)⟩
  · have d1 : decide (0 ≤ x) = false := decide_eq_false h
    go_enter Tryd.func27, Tryd.ntmps27
    go_wp2
    go_ret
    exact ⟨by first | rfl | (simp [d1]; done), by repeat (first | exact Drawn0.refl _ | apply Drawn0.step)⟩
theorem impl_isPath.calls (A0 : Option Addr) (c0 : Nat) (l0 : List Int) (r : Bool) (w : World) (hr0 : Kd.C (Kd.int .i64) w A0 l0.length l0) (hc0 : l0.length ≤ c0) (h : impl_isPath.f l0 = some r) :
    Calls Tryd.prog 19 #[.slice A0 l0.length c0] w fun e w' => e = .returned (.bool r) ∧ Drawn0 w w' := by
  obtain rfl := Option.some.inj h
  have HR := Aside0.mk hr0
  clear hr0 h
  by_cases hl : l0.length ≤ 10
  · have d1 : decide ((l0.length : Int) ≤ 10) = true := decide_eq_true (by omega)
    have d2 : decide (l0.length ≤ 10) = true := decide_eq_true hl
    rw [d2]
    go_enter Tryd.func19, Tryd.ntmps19
    go_wp2_with (go_at_call 26; refine (containsFunc_int badStep 27 #[] (enters_of Tryd.func27 (by kernel_rfl) rfl) A0 c0 l0 _ (fun x m => isPath_lit x _) HR.out).mono ?_; rintro e w' ⟨rfl, ⟨q, rfl⟩⟩)
    go_ret
    exact ⟨by first | rfl | (simp; done), by repeat (first | exact Drawn0.refl _ | apply Drawn0.step)⟩
  · have d1 : decide ((l0.length : Int) ≤ 10) = false := decide_eq_false (by omega)
    have d2 : decide (l0.length ≤ 10) = false := decide_eq_false hl
    rw [d2]
    go_enter Tryd.func19, Tryd.ntmps19
    go_wp2
    go_ret
    exact ⟨by first | rfl | (simp; done), by repeat (first | exact Drawn0.refl _ | apply Drawn0.step)⟩
end Go.Proofs.YtanlfhhliogmjaaDoor.Given
