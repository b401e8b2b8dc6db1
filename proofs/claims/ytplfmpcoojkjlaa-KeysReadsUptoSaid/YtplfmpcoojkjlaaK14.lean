/- The walk of KeysReads. -/
import Derived.Test.YtplfmpcoojkjlaaK13
namespace Go.Proofs.Ytplfmpcoojkjlaa
open Go.RowKit Go.Proofs.YtplfmpcoojkjlaaW.PrintWords
theorem TT.maps_len {σ τ : Type} (g : σ → τ) (ps : List (TT σ)) : (TT.maps g ps).length = ps.length := by
  rw [TT.maps_map]; simp
set_option maxRecDepth 100000 in
set_option maxHeartbeats 4000000 in
theorem reads_calls (w : World) (A : Option Addr) (xs : List Int) (c : Nat) (hr : Row w A (nums8 xs)) (hx : Byt xs) (hm : xs.length ≤ 1099511627776) :
    Calls Try.prog 3 #[.slice A xs.length c] w fun e w' => e = .returned (.bool true) ∧ Below w.heap.size w w' := by
  have HR := Lib.hid hr
  have HX := Lib.hid hx
  have HM := Lib.hid hm
  clear hr hx
  go_enter Try.func3, Try.ntmps3
  go_wp2_with fail
  refine (rdecode_calls (2 * xs.length + 1) _ _ xs _ HR.out HX.out HM.out (Nat.le_refl _)).mono ?_
  rintro e w1 ⟨hb1, hd1⟩
  have HB1 := Lib.hid hb1
  clear hb1
  generalize hD : decS (2 * xs.length + 1) xs = D at hd1
  have HD := Lib.hid hD
  clear hD
  have hrd : ∃ (B : Option Addr) (cb : Nat) (ms : List (LT PS)) (er : Int), e = .returned (.tuple #[.slice B ms.length cb, .int .i64 er]) ∧ RdL PS.enc w1 B ms ∧ (match (generalizing := false) D with | .err x => ms = [] ∧ x = er | .ok ps => LT.pures ms = ps ∧ er = 0) := by
    cases D with
    | err x => exact ⟨none, 0, [], x, hd1.2, RdL.nil _ _ _, rfl, rfl⟩
    | ok ps =>
      obtain ⟨h, ls, he, hp, ho, _⟩ := hd1
      exact ⟨h.A, h.cap, ls, 0, he, ho.rd.1, hp, rfl⟩
  clear hd1
  obtain ⟨B, cb, ms, er, rfl, hms, hmd⟩ := hrd
  have HMS := Lib.hid hms
  have HMD := Lib.hid hmd
  clear hms hmd
  go_wp2_with fail
  refine (lent_calls w1 A xs _ (HR.out.below HB1.out) HM.out).mono ?_
  rintro e w2 ⟨G, cap, rfl, ho2, hb2⟩
  have HB2 := Lib.hid hb2
  clear hb2
  have hcap : xs.length + 2 ≤ cap := (own_row ho2).1
  obtain ⟨g, cap2, hg, _, hglt⟩ := ho2.form (by omega)
  injection hg with hg1 hg2 hg3
  subst hg1 hg3
  have hrow2 : Row w2 (some ⟨g, 0, none⟩) (nums8 (xs ++ [201, 77])) := (own_row ho2).2.1
  have hrow : Row w2 (some ⟨g, 0, none⟩) (nums8 xs) := by rw [nums8_append] at hrow2; exact hrow2.mono
  have HW := Lib.hid (show _ ∧ _ from ⟨hrow2, hrow⟩)
  clear hrow2 hrow ho2
  go_wp2_with fail
  refine (decode_calls (2 * xs.length + 1) _ _ xs _ HW.out.2 HX.out (by omega) HM.out (Nat.le_refl _)).mono ?_
  rintro e w3 ⟨hb3, hd3⟩
  rw [HD.out] at hd3
  have HB3 := Lib.hid hb3
  clear hb3
  have hrd : ∃ (C : Option Addr) (cc : Nat) (ls : List (LT VS)), e = .returned (.tuple #[.slice C ls.length cc, .int .i64 er]) ∧ RdL VS.enc w3 C ls ∧ LT.pures ls = TT.maps PS.ans (LT.pures ms) := by
    have hmd := HMD.out
    cases D with
    | err x =>
      obtain ⟨rfl, rfl⟩ := hmd
      exact ⟨none, 0, [], hd3.2, RdL.nil _ _ _, rfl⟩
    | ok ps =>
      obtain ⟨h, ls, he, hp, ho, _⟩ := hd3
      obtain ⟨h1, rfl⟩ := hmd
      exact ⟨h.A, h.cap, ls, he, ho.rd.1, by rw [hp, h1]⟩
  clear hd3
  obtain ⟨C, cc, ls, rfl, hls, heq⟩ := hrd
  have HLS := Lib.hid hls
  have HEQ := Lib.hid heq
  clear hls heq
  have hcw : (xs.length : Int) + 2 ≤ cap := by omega
  go_wp2_with fail
  have hb23 : ∀ n, Below w2.heap.size w2 (w3.drewN n) := fun n => pw_below_drewN HB3.out n
  have hsame : Calls Try.prog 8 #[.slice (some ⟨g, 0, none⟩) xs.length cap, .slice A xs.length c] w3 fun e w' => e = .returned (.bool (decide (xs = xs))) ∧ Drawn0 w3 w' := by
    refine same_calls _ _ _ xs xs _ _ (HW.out.2.below HB3.out) ?_ (by omega)
    exact ((HR.out.below HB1.out).below (HB2.out)).below HB3.out
  refine hsame.mono ?_
  rintro e w4 ⟨rfl, ⟨nd, rfl⟩⟩
  rw [show decide (xs = xs) = true from decide_eq_true rfl]
  have h201 : w3.cell? ⟨g, xs.length, none⟩ = some (.int .u8 201) := by
    obtain ⟨b, o, hbo, _, hc⟩ := (HW.out.1.below HB3.out).get (by simp [nums8])
    injection hbo with hbo
    injection hbo with h1 h2
    subst h1 h2
    have := hc xs.length (.int .u8 201) (by simp [nums8])
    simpa using this
  have h77 : w3.cell? ⟨g, xs.length + 1, none⟩ = some (.int .u8 77) := by
    obtain ⟨b, o, hbo, _, hc⟩ := (HW.out.1.below HB3.out).get (by simp [nums8])
    injection hbo with hbo
    injection hbo with h1 h2
    subst h1 h2
    have := hc (xs.length + 1) (.int .u8 77) (by simp [nums8])
    simpa using this
  go_wp2_with fail
  refine (told_all (LT.cnts ms) _ _ _ _ _ ls ms (Nat.le_refl _) (HLS.out.below (pw_below_drewN (Below.refl _ _) _)) (HMS.out.below (by
    exact HB2.out.trans ((hb23 _).mono HB2.out.size))) HEQ.out).mono ?_
  rintro e w5 ⟨rfl, hb5⟩
  go_wp2
  go_ret
  exact ⟨rfl, ((HB1.out.trans (HB2.out.mono HB1.out.size)).trans ((hb23 _).mono (Nat.le_trans HB1.out.size HB2.out.size))).trans (hb5.mono (Nat.le_trans HB1.out.size (Nat.le_trans HB2.out.size (hb23 _).size)))⟩
end Go.Proofs.Ytplfmpcoojkjlaa
