/- A log is begun. -/
import Derived.Test.YtokflmiijdpchaaGreatD17
namespace Go.Proofs.YtokflmiijdpchaaGreat
open Go.RowKit
set_option maxRecDepth 100000 in
set_option maxHeartbeats 4000000 in
theorem begin_calls (w : World) (l d fr n : Nat) (g1 g2 g3 g4 : Int) (h : Lg w l d fr n g1 g2 g3 g4) (N sb k : Nat) (U : Nat → Prop) (hd : DU w d N sb k U) (hl : U l) (hn : 1 ≤ n) (hk : k + 1 < 1048576) (hfn : fr + n < N) (gen : Int) :
    Calls Tryz.prog 132 #[.pointer (some ⟨l, 0, none⟩), .int .i64 gen] w fun e w' => e = .returned (.tuple #[]) ∧ DU w' d N sb 0 U ∧ Kp U w w' := by
  have hroom := hd.room
  have HD := Lib.hid (show _ ∧ _ from ⟨h, hd⟩)
  have hL : ∀ (W : World), Kp U w W → W.cell? ⟨l, 0, none⟩ = some (.pointer (some ⟨d, 0, none⟩)) ∧ W.cell? ⟨l, 2, none⟩ = some (.int .i64 n) := fun _ hk => ⟨(cellD (HD.out.1.kp hk hl) 0).1, (cellD (HD.out.1.kp hk hl) 2).1⟩
  have HL := Lib.hid hL
  have c0 := hL _ (Kp.refl _ _)
  clear h hd hL
  obtain ⟨c01, c02⟩ := c0
  have T1 := trivial
  go_enter Tryz.func132, Tryz.ntmps132
  go_wp2_with (first
    | (clear T1; go_at_call 118; refine (wipe_calls _ l d fr n g1 g2 g3 g4 HD.out.1 N sb k U HD.out.2 hl 0 1 (by omega) (by omega) (by omega)).mono ?_; rintro e w1 ⟨rfl, ⟨k1, -, hd1⟩, kp1⟩; obtain ⟨c11, c12⟩ := HL.out _ kp1; have H1 := Lib.hid (show _ ∧ _ from ⟨hd1, kp1⟩); clear hd1 kp1; have T2 := trivial)
    | (clear T2; go_at_call 121; refine (usync_calls _ d N sb k1 U H1.out.1).mono ?_; rintro e w2 ⟨rfl, hd2, kp2⟩; obtain ⟨c21, c22⟩ := HL.out _ (H1.out.2.trans kp2); have H2 := Lib.hid (show _ ∧ _ from ⟨hd2, H1.out.2.trans kp2⟩); clear hd2 kp2; have T3 := trivial)
    | (go_at_call 120; refine (fine_calls _).mono ?_; rintro e w' ⟨rfl, hw⟩; obtain rfl := hw.symm)
    | (clear T3; go_at_call 118; refine (wipe_calls _ l d fr n g1 g2 g3 g4 (HD.out.1.kp H2.out.2 hl) N sb 0 U H2.out.1 hl 1 n (by omega) (by omega) (by omega)).mono ?_; rintro e w3 ⟨rfl, ⟨k3, -, hd3⟩, kp3⟩; obtain ⟨c31, c32⟩ := HL.out _ (H2.out.2.trans kp3); have H3 := Lib.hid (show _ ∧ _ from ⟨hd3, H2.out.2.trans kp3⟩); clear hd3 kp3; have T4 := trivial)
    | (clear T4; go_at_call 121; refine (usync_calls _ d N sb k3 U H3.out.1).mono ?_; rintro e w4 ⟨rfl, hd4, kp4⟩; have H4 := Lib.hid (show _ ∧ _ from ⟨hd4, H3.out.2.trans kp4⟩); clear hd4 kp4; have T5 := trivial)
    | (clear T5; go_at_call 200; refine (wnumber8 _ _).mono ?_; rintro e w5 ⟨g, c, xs, rfl, hl5, hu5, hb5, hr5, hg5, hg5'⟩; have H5 := Lib.hid (show _ ∧ _ ∧ _ from ⟨hu5, hb5, hr5⟩); clear hu5 hb5 hr5; have T6 := trivial)
    | (clear T6; go_at_call 199; refine (made_calls _ g 8 c xs H5.out.2.2 hg5' hl5 (by omega) H5.out.1).mono ?_; rintro e w6 ⟨zs, rfl, hs6, hb6⟩; have H6 := Lib.hid (show _ ∧ _ ∧ _ from ⟨hs6, (H4.out.1.below H5.out.2.1).below hb6, H4.out.2.trans ((Kp.of_below H5.out.2.1 fun b hb => H4.out.1.lt hb).trans (Kp.of_below hb6 fun b hb => (H4.out.1.below H5.out.2.1).lt hb))⟩); clear hs6 hb6; have T7 := trivial)
    | (clear T7; go_at_call 182; refine (lwrite_calls _ l d fr n g1 g2 g3 g4 (HD.out.1.kp H6.out.2.2 hl) N sb 0 U H6.out.2.1 hl (by omega) 0 (by omega) zs H6.out.1).mono ?_; rintro e w7 ⟨rfl, hd7, kp7⟩; obtain ⟨c71, c72⟩ := HL.out _ (H6.out.2.2.trans kp7); have H7 := Lib.hid (show _ ∧ _ from ⟨hd7, H6.out.2.2.trans kp7⟩); clear hd7 kp7; have T8 := trivial)
    | (clear T8; go_at_call 121; refine (usync_calls _ d N sb _ U H7.out.1).mono ?_; rintro e w8 ⟨rfl, hd8, kp8⟩; have H8 := Lib.hid (show _ ∧ _ from ⟨hd8, H7.out.2.trans kp8⟩); clear hd8 kp8))
  first | go_end0 | refine bodyPost_ret (results_none rfl _ _ _) rfl ?_
  exact ⟨rfl, H8.out.1, H8.out.2⟩
end Go.Proofs.YtokflmiijdpchaaGreat
