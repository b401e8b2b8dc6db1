/- The ground of the rows of this seat: how arguments are opened. -/
import Derived.Test.YtplfmpcoojkjlaaDoorK33
import Derived.Test.YtplfmpcoojkjlaaDoorCards
import Derived.Test.YtplfmpcoojkjlaaDoorTie
import Derived.ChangeOld
import Derived.Below
import Derived.Lay
import Derived.LaidOnce
import Derived.SevenTiedAt
namespace Go.Proofs.YtplfmpcoojkjlaaDoor
open Go.ChangeShapes Go.WideShapes Go.ChangeAt Go.RowKit
theorem own : ownKnob Tryd.prog.godebug = none := by kernel_rfl
theorem laidOut : laidOutB Tryd.prog = true := by kernel_rfl
section
variable {H : Type} {enc : TypeId × Value → H} {W : World} {base : Nat} {v1 : Value} {d1 : DataW H} {p1 : List MemPlace}
set_option maxRecDepth 100000 in
theorem open_row (hval : Value.okWide Tryd.prog W .any base 22 v1) (h1 : DataW.Trod enc Tryd.prog W 0 (fun _ => true) true 22 v1 d1 p1) :
    ∃ (A : Option Addr) (ms : List (LT PS)) (c : Nat), v1 = .slice A ms.length c ∧ RdL PS.enc W A ms ∧ TT.alls PS.fits (LT.pures ms) := by
  obtain ⟨a1, len, cap, rfl⟩ := okWide_slice Tryd.underlying22 hval
  obtain ⟨fuel, hf⟩ := h1
  obtain ⟨h, ms, hcs, _, _, hr, hfit⟩ := open_parts fuel _ _ hf
  simp [Value.cells] at hcs
  obtain ⟨rfl, rfl, rfl⟩ := hcs
  exact ⟨_, ms, _, rfl, hr, hfit⟩
set_option maxRecDepth 100000 in
theorem open_bytes (hval : Value.okWide Tryd.prog W .any base 24 v1) (h1 : DataW.Trod enc Tryd.prog W 0 (fun _ => true) true 24 v1 d1 p1) :
    ∃ (A : Option Addr) (xs : List Int) (c : Nat), v1 = .slice A xs.length c ∧ Row W A (nums8 xs) ∧ Byt xs ∧ xs.length ≤ c := by
  obtain ⟨a1, len, cap, rfl⟩ := okWide_slice Tryd.underlying24 hval
  obtain ⟨fuel, hf⟩ := h1
  obtain ⟨h, xs, hcs, hle, _, hb, hr⟩ := open_text hf
  simp [Value.cells] at hcs
  obtain ⟨rfl, rfl, rfl⟩ := hcs
  exact ⟨_, xs, _, rfl, hr, hb, hle⟩
end
end Go.Proofs.YtplfmpcoojkjlaaDoor
