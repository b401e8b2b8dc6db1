/- The walks of KeysSort and KeysOrder. -/
import Derived.Test.YtplfmpcoojkjlaaDoorK54
namespace Go.Proofs.YtplfmpcoojkjlaaDoor
open Go.RowKit Go.Proofs.YtplfmpcoojkjlaaDoorW.PrintWords
theorem cmpS_1 {ps qs : List (TT PS)} (h : TT.flts PS.kind ps 0 ≠ 0) : cmpS ps qs = (0, TT.flts PS.kind ps 0) := by unfold cmpS errOf; rw [if_pos h]
theorem cmpS_2 {ps qs : List (TT PS)} (h : TT.flts PS.kind ps 0 = 0) (k : TT.flts PS.kind qs 0 ≠ 0) : cmpS ps qs = (0, TT.flts PS.kind qs 0) := by unfold cmpS errOf; rw [if_neg (by simp [h]), if_pos k]
theorem cmpS_3 {ps qs : List (TT PS)} (h : TT.flts PS.kind ps 0 = 0) (k : TT.flts PS.kind qs 0 = 0) : cmpS ps qs = (cmpL ps qs, 0) := by unfold cmpS errOf; rw [if_neg (by simp [h]), if_neg (by simp [k])]
/-- What the laws of two rows begin with. -/
theorem sort_cmp {ps qs : List (TT PS)} (h : TT.flts PS.kind ps 0 = 0) (k : TT.flts PS.kind qs 0 = 0) (fp : TT.alls PS.fits ps) (fq : TT.alls PS.fits qs) : cmpX (encS ps) (encS qs) = cmpL ps qs := by
  rw [encS_ok h, encS_ok k]
  exact cmp_codL ps qs 0 0 h k fp fq
set_option maxRecDepth 100000 in
set_option maxHeartbeats 4000000 in
theorem sort_calls (w : World) (A : Option Addr) (ms : List (LT PS)) (c : Nat) (hA : RdL PS.enc w A ms) (hfm : TT.alls PS.fits (LT.pures ms)) (B : Option Addr) (qs : List (LT PS)) (d : Nat) (hB : RdL PS.enc w B qs) (hfq : TT.alls PS.fits (LT.pures qs)) :
    Calls Tryd.prog 5 #[.slice A ms.length c, .slice B qs.length d] w fun e w' => e = .returned (.bool true) ∧ Below w.heap.size w w' := by
  obtain ⟨ba, hba, hwa⟩ := beyond_any w A c ms hA
  obtain ⟨bb, hbb, hwb⟩ := beyond_any w B d qs hB
  have HB1 := Lib.hid (show _ ∧ _ from ⟨hba, hbb⟩)
  clear hba hbb
  cases ba
  case true =>
    clear hwa hwb
    go_enter Tryd.func5, Tryd.ntmps5
    go_wp2_with fail
    refine (HB1.out.1 _ (Below.refl _ _)).mono ?_
    rintro e w1 ⟨rfl, rfl⟩
    go_wp2
    go_ret
    exact ⟨rfl, Below.refl _ _⟩
  cases bb
  case true =>
    clear hwa hwb
    go_enter Tryd.func5, Tryd.ntmps5
    go_wp2_with fail
    refine (HB1.out.1 _ (Below.refl _ _)).mono ?_
    rintro e w1 ⟨rfl, rfl⟩
    go_wp2_with fail
    refine (HB1.out.2 _ (Below.refl _ _)).mono ?_
    rintro e w1 ⟨rfl, rfl⟩
    go_wp2
    go_ret
    exact ⟨rfl, Below.refl _ _⟩
  have hw1 := hwa rfl
  have hw2 := hwb rfl
  have hc1 := codL_len (LT.pures ms)
  have hc2 := codL_len (LT.pures qs)
  have hb1 := encS_byt (LT.pures ms) hfm
  have hb2 := encS_byt (LT.pures qs) hfq
  have hso := fun h k => sort_cmp (ps := LT.pures ms) (qs := LT.pures qs) h k hfm hfq
  have HV := Lib.hid (show _ ∧ _ from ⟨val_any w A c ms hA hfm (by omega), val_any w B d qs hB hfq (by omega)⟩)
  have HC := Lib.hid (show (codL (LT.pures ms)).length ≤ 1099511627775 ∧ (codL (LT.pures qs)).length ≤ 1099511627775 from ⟨by omega, by omega⟩)
  have HS := Lib.hid (show _ ∧ _ ∧ _ from ⟨hso, hb1, hb2⟩)
  clear hwa hwb hw1 hw2 hc1 hc2 hb1 hb2 hso hA hB hfm hfq
  generalize LT.pures ms = ps at *
  generalize LT.pures qs = ts at *
  go_enter Tryd.func5, Tryd.ntmps5
  go_wp2_with fail
  refine (HB1.out.1 _ (Below.refl _ _)).mono ?_
  rintro e w1 ⟨rfl, rfl⟩
  go_wp2_with fail
  refine (HB1.out.2 _ (Below.refl _ _)).mono ?_
  rintro e w1 ⟨rfl, rfl⟩
  go_wp2_with fail
  refine (awake_calls w).mono ?_
  rintro e w1 ⟨rfl, hb1⟩
  have H1 := Lib.hid hb1
  clear hb1
  go_wp2_with fail
  refine (HV.out.1 _ H1.out).mono ?_
  rintro e w2 ⟨A2, l2, c2, rfl, hg2, hb2⟩
  have H2 := Lib.hid (show _ ∧ Below w.heap.size w w2 from ⟨hg2, H1.out.trans (hb2.mono H1.out.size)⟩)
  clear hg2 hb2
  go_wp2_with fail
  have hen := enc_any H2.out.1 HC.out.1 c2 w2 (Below.refl _ _)
  unfold EncPost at hen
  refine hen.mono ?_
  rintro e w3 ⟨A3, c3, rfl, ho3, hb3⟩
  have H3 := Lib.hid (show _ ∧ Below w.heap.size w w3 from ⟨ho3, H2.out.2.trans (hb3.mono H2.out.2.size)⟩)
  clear ho3 hb3 hen
  go_wp2_with fail
  refine (HV.out.2 _ H3.out.2).mono ?_
  rintro e w4 ⟨A4, l4, c4, rfl, hg4, hb4⟩
  have H4 := Lib.hid (show _ ∧ Below w3.heap.size w3 w4 ∧ Below w.heap.size w w4 from ⟨hg4, hb4, H3.out.2.trans (hb4.mono H3.out.2.size)⟩)
  clear hg4 hb4
  go_wp2_with fail
  have hen := enc_any H4.out.1 HC.out.2 c4 w4 (Below.refl _ _)
  unfold EncPost at hen
  refine hen.mono ?_
  rintro e w5 ⟨A5, c5, rfl, ho5, hb5⟩
  have H5 := Lib.hid (show _ ∧ Below w3.heap.size w3 w5 ∧ Below w.heap.size w w5 from ⟨ho5, H4.out.2.1.trans (hb5.mono H4.out.2.1.size), H4.out.2.2.trans (hb5.mono H4.out.2.2.size)⟩)
  clear ho5 hb5 hen
  go_wp2_with fail
  refine (HV.out.1 _ H5.out.2.2).mono ?_
  rintro e w6 ⟨A6, l6, c6, rfl, hg6, hb6⟩
  have H6 := Lib.hid (show _ ∧ Below w5.heap.size w5 w6 ∧ Below w.heap.size w w6 from ⟨hg6, hb6, H5.out.2.2.trans (hb6.mono H5.out.2.2.size)⟩)
  clear hg6 hb6
  go_wp2_with fail
  refine (HV.out.2 _ H6.out.2.2).mono ?_
  rintro e w7 ⟨A7, l7, c7, rfl, hg7, hb7⟩
  have H7 := Lib.hid (show _ ∧ _ ∧ Below w5.heap.size w5 w7 ∧ Below w.heap.size w w7 from ⟨hg7, hb7, H6.out.2.1.trans (hb7.mono H6.out.2.1.size), H6.out.2.2.trans (hb7.mono H6.out.2.2.size)⟩)
  clear hg7 hb7
  go_wp2_with fail
  have hcm := cmp_any H6.out.1 H7.out.1 c6 c7 w7 H7.out.2.1 (Below.refl _ _)
  unfold CmpP at hcm
  have HE := Lib.hid (show _ ∧ _ ∧ _ from ⟨@cmpS_1 ps ts, @cmpS_2 ps ts, @cmpS_3 ps ts⟩)
  have HEL := Lib.hid (show (encS ps).length ≤ 9223372036854775807 ∧ (encS ts).length ≤ 9223372036854775807 from ⟨(own_row H3.out.1).2.2, (own_row H5.out.1).2.2⟩)
  generalize cmpS ps ts = R at *
  obtain ⟨r1, r2⟩ := R
  have HCM := Lib.hid hcm
  clear hcm
  refine HCM.out.mono ?_
  rintro e w8 ⟨rfl, hb8⟩
  have H8 := Lib.hid (show Below w5.heap.size w5 w8 ∧ Below w.heap.size w w8 from ⟨H7.out.2.2.1.trans (hb8.mono H7.out.2.2.1.size), H7.out.2.2.2.trans (hb8.mono H7.out.2.2.2.size)⟩)
  clear hb8 HCM
  generalize TT.flts PS.kind ps 0 = fa at *
  generalize TT.flts PS.kind ts 0 = fb at *
  by_cases h1 : fa = 0
  case neg =>
    have hh := HE.out.1 h1
    simp only [Prod.mk.injEq] at hh
    obtain ⟨rfl, rfl⟩ := hh
    have hn1 : (r2 != 0) = true := by simpa using h1
    clear h1
    go_wp2
    go_ret
    exact ⟨rfl, H8.out.2⟩
  subst h1
  by_cases h2 : fb = 0
  case neg =>
    have hh := HE.out.2.1 rfl h2
    simp only [Prod.mk.injEq] at hh
    obtain ⟨rfl, rfl⟩ := hh
    have hn1 : (r2 != 0) = true := by simpa using h2
    clear h2
    go_wp2
    go_ret
    exact ⟨rfl, H8.out.2⟩
  subst h2
  have hh := HE.out.2.2 rfl rfl
  simp only [Prod.mk.injEq] at hh
  obtain ⟨hr1, rfl⟩ := hh
  have hah := ahead_calls w8 A3 A5 (encS ps) (encS ts) c3 c5 (((own_row H3.out.1).2.1.below H5.out.2.1).below H8.out.1) ((own_row H5.out.1).2.1.below H8.out.1) HS.out.2.1 HS.out.2.2 HEL.out.1 HEL.out.2
  rw [HS.out.1 rfl rfl, ← hr1] at hah
  have HAH := Lib.hid hah
  clear hah hr1
  go_wp2_with fail
  refine HAH.out.mono ?_
  rintro e w9 ⟨rfl, hb9⟩
  have H9 := Lib.hid (H8.out.2.trans (hb9.mono H8.out.2.size))
  clear hb9
  go_wp2
  go_ret
  exact ⟨rfl, H9.out⟩
theorem ord_facts {ps qs rs : List (TT PS)} (h : TT.flts PS.kind ps 0 = 0) (k : TT.flts PS.kind qs 0 = 0) (l : TT.flts PS.kind rs 0 = 0) (fp : TT.alls PS.fits ps) (fq : TT.alls PS.fits qs) (fr : TT.alls PS.fits rs) :
    cmpL qs ps = - cmpL ps qs ∧ cmpL ps ps = 0 ∧ (-1 ≤ cmpL ps qs ∧ cmpL ps qs ≤ 1) ∧ (cmpL ps qs ≤ 0 → cmpL qs rs ≤ 0 → cmpL ps rs ≤ 0) := by
  rw [← cmp_codL qs ps 0 0 k h fq fp, ← cmp_codL ps qs 0 0 h k fp fq, ← cmp_codL ps ps 0 0 h h fp fp, ← cmp_codL qs rs 0 0 k l fq fr, ← cmp_codL ps rs 0 0 h l fp fr]
  exact ⟨cmpX_neg _ _, cmpX_self _, cmpX_bd _ _, cmpX_le _ _ _⟩
set_option maxRecDepth 100000 in
set_option maxHeartbeats 8000000 in
theorem order_calls (w : World) (A : Option Addr) (ms : List (LT PS)) (c : Nat) (hA : RdL PS.enc w A ms) (hfm : TT.alls PS.fits (LT.pures ms)) (B : Option Addr) (qs : List (LT PS)) (d : Nat) (hB : RdL PS.enc w B qs) (hfq : TT.alls PS.fits (LT.pures qs)) (C : Option Addr) (rs : List (LT PS)) (f : Nat) (hC : RdL PS.enc w C rs) (hfr : TT.alls PS.fits (LT.pures rs)) :
    Calls Tryd.prog 9 #[.slice A ms.length c, .slice B qs.length d, .slice C rs.length f] w fun e w' => e = .returned (.bool true) ∧ Below w.heap.size w w' := by
  obtain ⟨ba, hba, hwa⟩ := beyond_any w A c ms hA
  obtain ⟨bb, hbb, hwb⟩ := beyond_any w B d qs hB
  obtain ⟨bc, hbc, hwc⟩ := beyond_any w C f rs hC
  have HB1 := Lib.hid (show _ ∧ _ ∧ _ from ⟨hba, hbb, hbc⟩)
  clear hba hbb hbc
  cases ba
  case true =>
    clear hwa hwb hwc
    go_enter Tryd.func9, Tryd.ntmps9
    go_wp2_with fail
    refine (HB1.out.1 _ (Below.refl _ _)).mono ?_
    rintro e w1 ⟨rfl, rfl⟩
    go_wp2
    go_ret
    exact ⟨rfl, Below.refl _ _⟩
  cases bb
  case true =>
    clear hwa hwb hwc
    go_enter Tryd.func9, Tryd.ntmps9
    go_wp2_with fail
    refine (HB1.out.1 _ (Below.refl _ _)).mono ?_
    rintro e w1 ⟨rfl, rfl⟩
    go_wp2_with fail
    refine (HB1.out.2.1 _ (Below.refl _ _)).mono ?_
    rintro e w1 ⟨rfl, rfl⟩
    go_wp2
    go_ret
    exact ⟨rfl, Below.refl _ _⟩
  cases bc
  case true =>
    clear hwa hwb hwc
    go_enter Tryd.func9, Tryd.ntmps9
    go_wp2_with fail
    refine (HB1.out.1 _ (Below.refl _ _)).mono ?_
    rintro e w1 ⟨rfl, rfl⟩
    go_wp2_with fail
    refine (HB1.out.2.1 _ (Below.refl _ _)).mono ?_
    rintro e w1 ⟨rfl, rfl⟩
    go_wp2_with fail
    refine (HB1.out.2.2 _ (Below.refl _ _)).mono ?_
    rintro e w1 ⟨rfl, rfl⟩
    go_wp2
    go_ret
    exact ⟨rfl, Below.refl _ _⟩
  have hw1 := hwa rfl
  have hw2 := hwb rfl
  have hw3 := hwc rfl
  have HV := Lib.hid (show _ ∧ _ ∧ _ from ⟨val_any w A c ms hA hfm (by omega), val_any w B d qs hB hfq (by omega), val_any w C f rs hC hfr (by omega)⟩)
  have HS := Lib.hid (fun h k l => ord_facts (ps := LT.pures ms) (qs := LT.pures qs) (rs := LT.pures rs) h k l hfm hfq hfr)
  clear hwa hwb hwc hw1 hw2 hw3 hA hB hC hfm hfq hfr
  generalize LT.pures ms = ps at *
  generalize LT.pures qs = ts at *
  generalize LT.pures rs = us at *
  go_enter Tryd.func9, Tryd.ntmps9
  go_wp2_with fail
  refine (HB1.out.1 _ (Below.refl _ _)).mono ?_
  rintro e w1 ⟨rfl, rfl⟩
  go_wp2_with fail
  refine (HB1.out.2.1 _ (Below.refl _ _)).mono ?_
  rintro e w1 ⟨rfl, rfl⟩
  go_wp2_with fail
  refine (HB1.out.2.2 _ (Below.refl _ _)).mono ?_
  rintro e w1 ⟨rfl, rfl⟩
  clear HB1
  go_wp2_with fail
  refine (awake_calls w).mono ?_
  rintro e v0 ⟨rfl, hb1⟩
  have H0 := Lib.hid hb1
  clear hb1
  have HE := Lib.hid (show _ ∧ _ ∧ _ ∧ _ ∧ _ from ⟨(show _ ∧ _ ∧ _ from ⟨@cmpS_1 ps ts, @cmpS_2 ps ts, @cmpS_3 ps ts⟩), (show _ ∧ _ ∧ _ from ⟨@cmpS_1 ts ps, @cmpS_2 ts ps, @cmpS_3 ts ps⟩), (show _ ∧ _ ∧ _ from ⟨@cmpS_1 ts us, @cmpS_2 ts us, @cmpS_3 ts us⟩), @cmpS_3 ps us, @cmpS_3 ps ps⟩)
  go_wp2_with fail
  refine (HV.out.1 _ H0.out).mono ?_
  rintro e w1 ⟨A1, l1, c1, rfl, hg, hb⟩
  have G1 := Lib.hid (show _ ∧ Below w.heap.size w w1 from ⟨hg, Below.trans H0.out (hb.mono (H0.out).size)⟩)
  clear hg hb
  go_wp2_with fail
  refine (HV.out.2.1 _ G1.out.2).mono ?_
  rintro e w2 ⟨A2, l2, c2, rfl, hg, hb⟩
  have G2 := Lib.hid (show _ ∧ _ ∧ Below w.heap.size w w2 from ⟨hg, hb, G1.out.2.trans (hb.mono G1.out.2.size)⟩)
  clear hg hb
  go_wp2_with fail
  have hcm := cmp_any G1.out.1 G2.out.1 c1 c2 w2 G2.out.2.1 (Below.refl _ _)
  unfold CmpP at hcm
  generalize hRx : cmpS ps ts = Rx at *
  obtain ⟨x1, x2⟩ := Rx
  have HRx := Lib.hid hRx
  have HCM := Lib.hid hcm
  clear hcm hRx
  refine HCM.out.mono ?_
  rintro e w3 ⟨rfl, hb⟩
  have G3 := Lib.hid (G2.out.2.2.trans (hb.mono G2.out.2.2.size))
  clear hb HCM
  go_wp2_with fail
  refine (HV.out.2.1 _ G3.out).mono ?_
  rintro e w4 ⟨A4, l4, c4, rfl, hg, hb⟩
  have G4 := Lib.hid (show _ ∧ Below w.heap.size w w4 from ⟨hg, Below.trans G3.out (hb.mono (G3.out).size)⟩)
  clear hg hb
  go_wp2_with fail
  refine (HV.out.1 _ G4.out.2).mono ?_
  rintro e w5 ⟨A5, l5, c5, rfl, hg, hb⟩
  have G5 := Lib.hid (show _ ∧ _ ∧ Below w.heap.size w w5 from ⟨hg, hb, G4.out.2.trans (hb.mono G4.out.2.size)⟩)
  clear hg hb
  go_wp2_with fail
  have hcm := cmp_any G4.out.1 G5.out.1 c4 c5 w5 G5.out.2.1 (Below.refl _ _)
  unfold CmpP at hcm
  generalize hRy : cmpS ts ps = Ry at *
  obtain ⟨y1, y2⟩ := Ry
  have HRy := Lib.hid hRy
  have HCM := Lib.hid hcm
  clear hcm hRy
  refine HCM.out.mono ?_
  rintro e w6 ⟨rfl, hb⟩
  have G6 := Lib.hid (G5.out.2.2.trans (hb.mono G5.out.2.2.size))
  clear hb HCM
  go_wp2_with fail
  refine (HV.out.2.1 _ G6.out).mono ?_
  rintro e w7 ⟨A7, l7, c7, rfl, hg, hb⟩
  have G7 := Lib.hid (show _ ∧ Below w.heap.size w w7 from ⟨hg, Below.trans G6.out (hb.mono (G6.out).size)⟩)
  clear hg hb
  go_wp2_with fail
  refine (HV.out.2.2 _ G7.out.2).mono ?_
  rintro e w8 ⟨A8, l8, c8, rfl, hg, hb⟩
  have G8 := Lib.hid (show _ ∧ _ ∧ Below w.heap.size w w8 from ⟨hg, hb, G7.out.2.trans (hb.mono G7.out.2.size)⟩)
  clear hg hb
  go_wp2_with fail
  have hcm := cmp_any G7.out.1 G8.out.1 c7 c8 w8 G8.out.2.1 (Below.refl _ _)
  unfold CmpP at hcm
  generalize hRz : cmpS ts us = Rz at *
  obtain ⟨z1, z2⟩ := Rz
  have HRz := Lib.hid hRz
  have HCM := Lib.hid hcm
  clear hcm hRz
  refine HCM.out.mono ?_
  rintro e w9 ⟨rfl, hb⟩
  have G9 := Lib.hid (G8.out.2.2.trans (hb.mono G8.out.2.2.size))
  clear hb HCM
  go_wp2_with fail
  refine (HV.out.1 _ G9.out).mono ?_
  rintro e w10 ⟨A10, l10, c10, rfl, hg, hb⟩
  have G10 := Lib.hid (show _ ∧ Below w.heap.size w w10 from ⟨hg, Below.trans G9.out (hb.mono (G9.out).size)⟩)
  clear hg hb
  go_wp2_with fail
  refine (HV.out.2.2 _ G10.out.2).mono ?_
  rintro e w11 ⟨A11, l11, c11, rfl, hg, hb⟩
  have G11 := Lib.hid (show _ ∧ _ ∧ Below w.heap.size w w11 from ⟨hg, hb, G10.out.2.trans (hb.mono G10.out.2.size)⟩)
  clear hg hb
  go_wp2_with fail
  have hcm := cmp_any G10.out.1 G11.out.1 c10 c11 w11 G11.out.2.1 (Below.refl _ _)
  unfold CmpP at hcm
  generalize hRq : cmpS ps us = Rq at *
  obtain ⟨q1, q2⟩ := Rq
  have HRq := Lib.hid hRq
  have HCM := Lib.hid hcm
  clear hcm hRq
  refine HCM.out.mono ?_
  rintro e w12 ⟨rfl, hb⟩
  have G12 := Lib.hid (G11.out.2.2.trans (hb.mono G11.out.2.2.size))
  clear hb HCM
  go_wp2_with fail
  refine (HV.out.1 _ G12.out).mono ?_
  rintro e w13 ⟨A13, l13, c13, rfl, hg, hb⟩
  have G13 := Lib.hid (show _ ∧ Below w.heap.size w w13 from ⟨hg, Below.trans G12.out (hb.mono (G12.out).size)⟩)
  clear hg hb
  go_wp2_with fail
  refine (HV.out.1 _ G13.out.2).mono ?_
  rintro e w14 ⟨A14, l14, c14, rfl, hg, hb⟩
  have G14 := Lib.hid (show _ ∧ _ ∧ Below w.heap.size w w14 from ⟨hg, hb, G13.out.2.trans (hb.mono G13.out.2.size)⟩)
  clear hg hb
  go_wp2_with fail
  have hcm := cmp_any G13.out.1 G14.out.1 c13 c14 w14 G14.out.2.1 (Below.refl _ _)
  unfold CmpP at hcm
  generalize hRs : cmpS ps ps = Rs at *
  obtain ⟨s1, s2⟩ := Rs
  have HRs := Lib.hid hRs
  have HCM := Lib.hid hcm
  clear hcm hRs
  refine HCM.out.mono ?_
  rintro e w15 ⟨rfl, hb⟩
  have G15 := Lib.hid (G14.out.2.2.trans (hb.mono G14.out.2.2.size))
  clear hb HCM
  generalize TT.flts PS.kind ps 0 = fa at *
  generalize TT.flts PS.kind ts 0 = fb at *
  generalize TT.flts PS.kind us 0 = fc at *
  by_cases h1 : fa = 0
  case neg =>
    have hx : x2 = fa := congrArg Prod.snd (HE.out.1.1 h1)
    have hy : y2 ≠ 0 := by
      by_cases h2 : fb = 0
      · have := congrArg Prod.snd (HE.out.2.1.2.1 h2 h1)
        exact fun e => h1 (this.symm.trans e)
      · have := congrArg Prod.snd (HE.out.2.1.1 h2)
        exact fun e => h2 (this.symm.trans e)
    subst hx
    have n1 : (x2 != 0) = true := by simpa using h1
    have n2 : (x2 == 0) = false := by simpa using h1
    have n3 : (y2 == 0) = false := by simpa using hy
    clear h1 hy
    go_wp2
    go_ret
    exact ⟨rfl, G15.out⟩
  subst h1
  by_cases h2 : fb = 0
  case neg =>
    have hx : x2 = fb := congrArg Prod.snd (HE.out.1.2.1 rfl h2)
    have hy : y2 = fb := congrArg Prod.snd (HE.out.2.1.1 h2)
    subst hx
    subst hy
    have n1 : (y2 != 0) = true := by simpa using h2
    have n2 : (y2 == 0) = false := by simpa using h2
    clear h2
    go_wp2
    go_ret
    exact ⟨rfl, G15.out⟩
  subst h2
  have hx := HE.out.1.2.2 rfl rfl
  have hy := HE.out.2.1.2.2 rfl rfl
  simp only [Prod.mk.injEq] at hx hy
  obtain ⟨hx1, rfl⟩ := hx
  obtain ⟨hy1, rfl⟩ := hy
  by_cases h3 : fc = 0
  case neg =>
    have hz : z2 = fc := congrArg Prod.snd (HE.out.2.2.1.2.1 rfl h3)
    subst hz
    have n1 : (z2 != 0) = true := by simpa using h3
    clear h3 hx1 hy1
    go_wp2
    go_ret
    exact ⟨rfl, G15.out⟩
  subst h3
  have hz := HE.out.2.2.1.2.2 rfl rfl
  have hq := HE.out.2.2.2.1 rfl rfl
  have hs := HE.out.2.2.2.2 rfl rfl
  simp only [Prod.mk.injEq] at hz hq hs
  obtain ⟨hz1, rfl⟩ := hz
  obtain ⟨hq1, rfl⟩ := hq
  obtain ⟨hs1, rfl⟩ := hs
  have hfa := HS.out rfl rfl rfl
  rw [← hx1, ← hy1, ← hz1, ← hq1, ← hs1] at hfa
  obtain ⟨e1, e2, ⟨e3, e4⟩, e5⟩ := hfa
  have n1 : (x1 == -y1) = true := by simp; omega
  have n2 : (s1 == 0) = true := by simp; omega
  have b1 : -1 ≤ y1 := by omega
  have b2 : y1 ≤ 1 := by omega
  have n3 : decide (x1 ≥ -1) = true := by simp; omega
  have n4 : decide (x1 ≤ 1) = true := by simp; omega
  clear e1 e2 hx1 hy1 hz1 hq1 hs1
  by_cases g1 : 0 < x1
  · have n5 : decide (0 < x1) = true := by simp; omega
    clear e5
    go_wp2
    go_ret
    exact ⟨rfl, G15.out⟩
  · have n5 : decide (0 < x1) = false := by simp; omega
    by_cases g2 : 0 < z1
    · have n6 : decide (0 < z1) = true := by simp; omega
      clear e5
      go_wp2
      go_ret
      exact ⟨rfl, G15.out⟩
    · have n6 : decide (0 < z1) = false := by simp; omega
      have e6 := e5 (by omega) (by omega)
      have n7 : decide (q1 ≤ 0) = true := by simp; omega
      clear e5
      go_wp2
      go_ret
      exact ⟨rfl, G15.out⟩
end Go.Proofs.YtplfmpcoojkjlaaDoor
