/- The walk of KeysForm. -/
import Derived.Test.YtplfmpcoojkjlaaDoorK54
namespace Go.Proofs.YtplfmpcoojkjlaaDoor
open Go.RowKit Go.Proofs.YtplfmpcoojkjlaaDoorW.PrintWords
theorem ans_ps1 (s : PS) (h : s.cln = s) : s.ans.ps = s := by
  obtain ⟨k, b, n, re, im⟩ := s
  simp only [PS.cln, PS.mk.injEq, true_and] at h
  obtain ⟨_, _, h3, h4⟩ := h
  simp only [PS.ans, VS.ps, PS.mk.injEq, true_and]
  refine ⟨?_, ?_⟩
  · by_cases h4' : k = 4
    · simp [h4']
    · by_cases h5 : k = 5
      · simp [h5]
      · rw [if_neg (by omega)] at h3
        simp [h4', h5, h3]
  · by_cases h5 : k = 5
    · simp [h5]
    · rw [if_neg h5] at h4
      simp [h5, h4]
mutual
theorem ans_psT : ∀ (p : TT PS), clnT p = p → p.map (fun s => s.ans.ps) = p
  | .mk s t ps => fun h => by
    simp only [clnT, TT.mk.injEq] at h
    obtain ⟨h1, _, h3⟩ := h
    simp only [TT.map, TT.mk.injEq, true_and]
    refine ⟨ans_ps1 s h1, ?_⟩
    by_cases h7 : s.kind = 7
    · rw [if_pos h7] at h3
      exact ans_psL ps h3
    · rw [if_neg h7] at h3
      subst h3
      rfl
theorem ans_psL : ∀ (ps : List (TT PS)), clnL ps = ps → TT.maps (fun s => s.ans.ps) ps = ps
  | [] => fun _ => rfl
  | p :: ps => fun h => by
    simp only [clnL, List.cons.injEq] at h
    simp only [TT.maps, List.cons.injEq]
    exact ⟨ans_psT p h.1, ans_psL ps h.2⟩
end
theorem dec_good {w : World} {h : Hdr} {ls : List (LT VS)} {ps : List (TT PS)} (hp : LT.pures ls = TT.maps PS.ans ps) (ho : OwnL VS.enc 5 46 w h ls) (hc : clnL ps = ps) (hf : TT.alls PS.fits ps) : Good w h.A ls ps :=
  ⟨ho.rd.1, by rw [hp, TT.maps_maps]; exact ans_psL ps hc, by rw [hp]; exact TT.maps_all _ PS.ans_fit _ hf⟩
set_option maxRecDepth 100000 in
set_option maxHeartbeats 8000000 in
theorem form_calls (w : World) (A : Option Addr) (xs : List Int) (c : Nat) (hr : Row w A (nums8 xs)) (hx : Byt xs) (hxc : xs.length ≤ c) (hm : xs.length ≤ 1048576) :
    Calls Tryd.prog 8 #[.slice A xs.length c] w fun e w' => e = .returned (.bool true) ∧ Below w.heap.size w w' := by
  have H0 := Lib.hid (show _ ∧ _ ∧ _ ∧ _ from ⟨hr, hx, hxc, hm⟩)
  clear hr hx hxc hm
  go_enter Tryd.func8, Tryd.ntmps8
  go_wp2_with fail
  refine (awake_calls w).mono ?_
  rintro e w1 ⟨rfl, hb1⟩
  have hde := decode_calls (2 * xs.length + 1) w1 A xs c (H0.out.1.below hb1) H0.out.2.1 H0.out.2.2.1 (by have := H0.out.2.2.2; omega) (Nat.le_refl _)
  unfold DecPost at hde
  have herr := dec_err (2 * xs.length + 1) xs
  have hform := dec_form (2 * xs.length + 1) xs
  generalize decS (2 * xs.length + 1) xs = R at hde herr hform
  have H1 := Lib.hid (show _ ∧ _ ∧ _ from ⟨hb1, herr, hform⟩)
  have HDE := Lib.hid hde
  clear hb1 herr hform hde
  go_wp2_with fail
  refine HDE.out.mono ?_
  rintro e w2 ⟨hb2, hres⟩
  have H2 := Lib.hid (show _ ∧ _ from ⟨hb2, H1.out.1.trans (hb2.mono H1.out.1.size)⟩)
  clear hb2 HDE
  cases R with
  | err er =>
    simp only at hres
    obtain ⟨hne, rfl⟩ := hres
    have he := H1.out.2.1 er rfl
    have HN := Lib.hid hne
    clear hne
    rcases he with rfl | rfl
    · go_wp2
      go_ret
      exact ⟨rfl, H2.out.2⟩
    · go_wp2
      go_ret
      exact ⟨rfl, H2.out.2⟩
  | ok ps =>
    simp only at hres
    obtain ⟨h, ls, rfl, hp, ho, _, _⟩ := hres
    obtain ⟨hxs, hfl, hfit, hcl⟩ := H1.out.2.2 ps H0.out.2.1 rfl
    have hg := dec_good hp ho hcl hfit
    have hen := enc_any hg (by rw [← hxs]; have := H0.out.2.2.2; omega) h.cap w2 (Below.refl _ _)
    unfold EncPost at hen
    rw [encS_ok hfl, ← hxs, hfl] at hen
    have HEN := Lib.hid hen
    clear hg hen hxs hfl hfit hcl ho hp
    go_wp2_with fail
    refine HEN.out.mono ?_
    rintro e w3 ⟨A3, c3, rfl, ho3, hb3⟩
    have hsm : Calls Tryd.prog 18 #[.slice A xs.length c, .slice A3 xs.length c3] w3 fun e w' => e = .returned (.bool true) ∧ Drawn0 w3 w' := by
      have := same_calls w3 A A3 xs xs c c3 (H0.out.1.below (H2.out.2.trans (hb3.mono H2.out.2.size))) (own_row ho3).2.1 (own_row ho3).2.2
      rwa [decide_eq_true rfl] at this
    have H3 := Lib.hid (show _ ∧ _ from ⟨hsm, H2.out.2.trans (hb3.mono H2.out.2.size)⟩)
    clear HEN ho3 hb3 hsm
    go_wp2_with fail
    refine H3.out.1.mono ?_
    rintro e w4 ⟨rfl, ⟨nd, rfl⟩⟩
    go_wp2
    go_ret
    exact ⟨rfl, pw_below_drewN H3.out.2 _⟩
end Go.Proofs.YtplfmpcoojkjlaaDoor
