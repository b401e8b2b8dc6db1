/- Snapshots sync; a log's call that the disk allows. -/
import Derived.Test.YtokflmiijdpchaaGreatD9
namespace Go.Proofs.YtokflmiijdpchaaGreat
open Go.RowKit
theorem ssync_calls (w : World) (s d : Nat) (f z g : Int) (dead : Bool) (h : Sht w s d f z g dead) (N sb k : Nat) (rv : Value) (hd : Dsk w d N sb rv k) :
    Calls Tryz.prog 135 #[.pointer (some ⟨s, 0, none⟩)] w fun e w' => e = .returned (.tuple #[]) ∧ Dsk w' d N sb (.slice none 0 0) 0 ∧ But w w' (DF d sb rv) := by
  have g0 : w.cell? ⟨s, 0, none⟩ = some (.pointer (some ⟨d, 0, none⟩)) := (cellD h 0).1
  have HD := Lib.hid hd
  clear h hd
  go_enter Tryz.func135, Tryz.ntmps135
  go_wp2_with (first
    | (go_at_call 121; refine (sync_calls _ d N sb k rv HD.out).mono ?_; rintro e w2 ⟨rfl, hd2, hb2⟩; have H2 := Lib.hid (show _ ∧ _ from ⟨hd2, hb2⟩); clear hd2 hb2))
  first | go_end0 | refine bodyPost_ret (results_none rfl _ _ _) rfl ?_
  exact ⟨rfl, H2.out.1, H2.out.2⟩
theorem fine_calls (w : World) : Calls Tryz.prog 120 #[.int .i64 0] w fun e w' => e = .returned (.tuple #[]) ∧ w' = w := by
  go_enter Tryz.func120, Tryz.ntmps120
  go_wp2
  first | go_end0 | refine bodyPost_ret (results_none rfl _ _ _) rfl ?_
  exact ⟨rfl, rfl⟩
theorem region_calls (w : World) (d N sb k : Nat) (rv : Value) (hd : Dsk w d N sb rv k) (f n : Nat) (h0 : 2 ≤ n) (h1 : f + n ≤ N) : Calls Tryz.prog 113 #[.pointer (some ⟨d, 0, none⟩), .int .i64 f, .int .i64 n] w fun e w' => e = .returned (.int .i64 0) ∧ w' = w := by
  have hr := hd.room
  have HD := Lib.hid hd
  clear hd
  go_enter Tryz.func113, Tryz.ntmps113
  go_wp2_with (first
    | (go_at_call 59; refine (sectors_calls _ d N sb k rv HD.out).mono ?_; rintro e w2 ⟨rfl, hw⟩; obtain rfl := hw.symm))
  go_ret
  exact ⟨rfl, rfl⟩
end Go.Proofs.YtokflmiijdpchaaGreat
