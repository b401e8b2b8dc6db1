/- The walk of KeysBack. -/
import Derived.Test.YtplfmpcoojkjlaaDoorK57
import Derived.Test.YtplfmpcoojkjlaaDoorK58
import Derived.Test.YtplfmpcoojkjlaaDoorK55
import Derived.OpenShut
namespace Go.Proofs.YtplfmpcoojkjlaaDoor
open Go.RowKit Go.Proofs.YtplfmpcoojkjlaaDoorW.PrintWords
mutual
theorem flt_cases : ∀ (p : TT PS) (d : Nat), p.flt PS.kind d = 0 ∨ p.flt PS.kind d = 40 ∨ p.flt PS.kind d = 41
  | .mk s t ps => fun d => by
    have ih := fun d => flts_cases ps d
    simp only [TT.flt]
    repeat' split
    all_goals first | exact ih _ | simp
theorem flts_cases : ∀ (ps : List (TT PS)) (d : Nat), TT.flts PS.kind ps d = 0 ∨ TT.flts PS.kind ps d = 40 ∨ TT.flts PS.kind ps d = 41
  | [] => fun _ => .inl rfl
  | p :: ps => fun d => by
    have h1 := flt_cases p d
    have h2 := flts_cases ps d
    simp only [TT.flts]
    split
    · exact h2
    · exact h1
end
/-- What the row's code, and a beginning of it, are read as. -/
theorem back_spec (ps : List (TT PS)) (hf : TT.flts PS.kind ps 0 = 0) (hp : TT.alls PS.fits ps) :
    decS (2 * (codL ps).length + 1) (codL ps) = .ok (clnL ps) ∧ codL (clnL ps) = codL ps ∧ TT.flts PS.kind (clnL ps) 0 = 0 ∧ TT.alls PS.fits (clnL ps) ∧ clnL (clnL ps) = clnL ps ∧ Byt (codL ps) := by
  have h := dec_cod ps _ hf hp (Nat.le_refl _)
  have hb := codL_byt ps 0 hf hp
  obtain ⟨h1, h2, h3, h4⟩ := dec_form _ _ _ hb h
  exact ⟨h, h1.symm, h2, h3, h4, hb⟩
theorem head_spec (ps : List (TT PS)) (hf : TT.flts PS.kind ps 0 = 0) (hp : TT.alls PS.fits ps) (k : Nat) (hk : k < (codL ps).length) :
    (∀ e, decS (2 * (codL ps).length + 1) ((codL ps).take k) = .err e → e = 40) ∧
      ∀ qs, decS (2 * (codL ps).length + 1) ((codL ps).take k) = .ok qs → codL qs = (codL ps).take k ∧ TT.flts PS.kind qs 0 = 0 ∧ TT.alls PS.fits qs ∧ clnL qs = qs ∧ cmpS qs (clnL ps) = (-1, 0) ∧ qs.length ≤ ps.length := by
  obtain ⟨h, h1, h2, h3, h4, hb⟩ := back_spec ps hf hp
  have hz : (codL ps).take k ++ (codL ps).drop k = codL ps := List.take_append_drop _ _
  have hne : (codL ps).drop k ≠ [] := by
    intro he
    have := congrArg List.length he
    rw [List.length_drop, List.length_nil] at this
    omega
  refine ⟨fun e he => ?_, fun qs hq => ?_⟩
  · rcases dec_err _ _ _ he with rfl | rfl
    · rfl
    · have := dec_ext41 _ _ ((codL ps).drop k) he
      rw [hz, h] at this
      cases this
  · obtain ⟨g1, g2, g3, g4⟩ := dec_form _ _ _ (hb.take k) hq
    refine ⟨g1.symm, g2, g3, g4, ?_, ?_⟩
    · rw [cmpS_3 g2 h2, ← cmp_codL qs (clnL ps) 0 0 g2 h2 g3 h3, ← g1, h1]
      have := cmpX_pre ((codL ps).take k) _ hne
      rw [hz] at this
      rw [this]
    · have := pre_len qs (clnL ps) ((codL ps).drop k) g2 h2 g3 h3 (by rw [← g1, hz, h1])
      rwa [clnL_length] at this
set_option maxRecDepth 100000 in
set_option maxHeartbeats 16000000 in
theorem back_calls (w : World) (A : Option Addr) (ms : List (LT PS)) (c : Nat) (hA : RdL PS.enc w A ms) (hfm : TT.alls PS.fits (LT.pures ms)) (a : Int) (ha : (Lit.int .i64 a).wf = true) :
    Calls Tryd.prog 7 #[.slice A ms.length c, .int .i64 a] w fun e w' => e = .returned (.bool true) ∧ Below w.heap.size w w' := by
  obtain ⟨bb, hbb, hwt⟩ := beyond_any w A c ms hA
  have HBA := Lib.hid hbb
  have HI := Lib.hid (bounds_i64 ha)
  have H0 := Lib.hid (show _ ∧ _ from ⟨hA, hfm⟩)
  clear hA hfm hbb ha
  cases bb
  case true =>
    clear hwt
    go_enter Tryd.func7, Tryd.ntmps7
    go_wp2_with fail
    refine (HBA.out _ (Below.refl _ _)).mono ?_
    rintro e w1 ⟨rfl, rfl⟩
    go_wp2
    go_ret
    exact ⟨rfl, Below.refl _ _⟩
  have hwa := hwt rfl
  have hcl := codL_len (LT.pures ms)
  have HW := Lib.hid (show TT.wts (LT.pures ms) ≤ 1048576 ∧ (codL (LT.pures ms)).length ≤ 1099511627775 from ⟨by omega, by omega⟩)
  clear hwa hwt hcl
  go_enter Tryd.func7, Tryd.ntmps7
  go_wp2_with fail
  refine (HBA.out _ (Below.refl _ _)).mono ?_
  rintro e w1 ⟨rfl, hw1⟩
  rw [← hw1]
  clear HBA hw1 w1
  go_wp2_with fail
  refine (awake_calls w).mono ?_
  rintro e w1 ⟨rfl, hb1⟩
  have H1 := Lib.hid hb1
  clear hb1
  go_wp2_with fail
  refine (val_any w A c ms H0.out.1 H0.out.2 HW.out.1 w1 H1.out).mono ?_
  rintro e w2 ⟨A2, ls, c2, rfl, hg2, hb2⟩
  have hen := enc_any hg2 HW.out.2 c2 w2 (Below.refl _ _)
  unfold EncPost at hen
  have HEN := Lib.hid hen
  have H2 := Lib.hid (H1.out.trans (hb2.mono H1.out.size))
  clear hen hg2 hb2
  go_wp2_with fail
  refine HEN.out.mono ?_
  rintro e w3 ⟨A3, c3, rfl, ho3, hb3⟩
  have H3 := Lib.hid (show _ ∧ _ from ⟨own_row ho3, H2.out.trans (hb3.mono H2.out.size)⟩)
  clear HEN ho3 hb3 H2
  by_cases hf : TT.flts PS.kind (LT.pures ms) 0 = 0
  case neg =>
    have he := encS_no hf
    have hcs := flts_cases (LT.pures ms) 0
    rw [he]
    generalize TT.flts PS.kind (LT.pures ms) 0 = F at *
    have HF := Lib.hid he
    clear he
    rcases hcs with h | h | h
    · exact absurd h hf
    all_goals
      subst h
      clear hf
      go_wp2
      go_ret
      exact ⟨rfl, H3.out.2⟩
  case pos =>
    have he := encS_ok hf
    have HB := Lib.hid (back_spec _ hf H0.out.2)
    have HH := Lib.hid (head_spec _ hf H0.out.2)
    have hr3 := H3.out.1
    rw [he] at hr3
    rw [he, hf]
    have hl0 : (codL (LT.pures ms)).length = 0 → ms.length = 0 := by
      intro h
      have h2 : codL (LT.pures ms) = [] := List.length_eq_zero_iff.1 h
      rw [← LT.pures_length]
      cases hps : LT.pures ms with
      | nil => rfl
      | cons p ps => rw [hps] at h2; exact absurd h2 (codL_cons_ne _ _)
    have HL := Lib.hid hl0
    generalize codL (LT.pures ms) = xs at *
    have hde := decode_calls (2 * xs.length + 1) w3 A3 xs c3 hr3.2.1 HB.out.2.2.2.2.2 hr3.1 (by have := HW.out.2; omega) (Nat.le_refl _)
    unfold DecPost at hde
    rw [HB.out.1] at hde
    have HDE := Lib.hid hde
    have HR := Lib.hid hr3
    clear hde hr3 hf he hl0
    go_wp2_with fail
    refine HDE.out.mono ?_
    rintro e w4 ⟨hb4, h4, l4, rfl, hp4, ho4, _, _⟩
    have hg4 := dec_good hp4 ho4 HB.out.2.2.2.2.1 HB.out.2.2.2.1
    have H4 := Lib.hid (show _ ∧ _ ∧ _ ∧ _ from ⟨hb4, H3.out.2.trans (hb4.mono H3.out.2.size), hp4, hg4⟩)
    clear hb4 hp4 ho4 hg4 HDE
    go_wp2_with fail
    refine (cln_all (LT.cnts ms) w4 A c ms (Nat.le_refl _) (H0.out.1.below H4.out.2.1) H0.out.2 HW.out.1).mono ?_
    rintro e w5 ⟨h5, l5, rfl, hp5, hcr5⟩
    have htd := told_all (LT.cnts l5) w5 h4.A h5.A h4.cap h5.cap l4 l5 (Nat.le_refl _) (H4.out.2.2.2.rd.below hcr5.below) hcr5.own.rd.1 (by rw [hp5]; exact H4.out.2.2.1)
    have HTD := Lib.hid htd
    have hb5 := hcr5.below
    have H5 := Lib.hid (show _ ∧ _ from ⟨hb5, H4.out.2.1.trans (hb5.mono H4.out.2.1.size)⟩)
    clear htd hb5 hcr5 hp5
    go_wp2_with fail
    refine HTD.out.mono ?_
    rintro e w6 ⟨rfl, hb6⟩
    have hen := enc_any H4.out.2.2.2 (by rw [HB.out.2.1]; exact HW.out.2) h4.cap w6 (H5.out.1.trans (hb6.mono H5.out.1.size))
    unfold EncPost at hen
    rw [encS_ok HB.out.2.2.1, HB.out.2.1, HB.out.2.2.1] at hen
    have HEN := Lib.hid hen
    have H6 := Lib.hid (show _ ∧ _ from ⟨H5.out.1.trans (hb6.mono H5.out.1.size), H5.out.2.trans (hb6.mono H5.out.2.size)⟩)
    clear hen hb6 HTD
    go_wp2_with fail
    refine HEN.out.mono ?_
    rintro e w7 ⟨A7, c7, rfl, ho7, hb7⟩
    have h37 : Below w3.heap.size w3 w7 := H4.out.1.trans ((H6.out.1.trans (hb7.mono H6.out.1.size)).mono H4.out.1.size)
    have hsm : Calls Tryd.prog 18 #[.slice A3 xs.length c3, .slice A7 xs.length c7] w7 fun e w' => e = .returned (.bool true) ∧ Drawn0 w7 w' := by
      have := same_calls w7 A3 A7 xs xs c3 c7 (HR.out.2.1.below h37) (own_row ho7).2.1 (own_row ho7).2.2
      rwa [decide_eq_true rfl] at this
    have H7 := Lib.hid (show _ ∧ _ ∧ _ ∧ _ from ⟨hsm, h37, H6.out.1.trans (hb7.mono H6.out.1.size), H6.out.2.trans (hb7.mono H6.out.2.size)⟩)
    clear ho7 hb7 HEN h37 hsm
    go_wp2_with fail
    refine H7.out.1.mono ?_
    rintro e w8 ⟨rfl, ⟨nd, rfl⟩⟩
    have H8 := Lib.hid (show _ ∧ _ ∧ _ from ⟨pw_below_drewN H7.out.2.1 nd, pw_below_drewN H7.out.2.2.1 nd, pw_below_drewN H7.out.2.2.2 nd⟩)
    generalize w7.drewN nd = w8 at *
    by_cases hx0 : xs.length = 0
    · have hm0 := HL.out hx0
      have HX := Lib.hid hx0
      have e1 : (xs.length : Int) = 0 := by omega
      have e2 : (ms.length : Int) = 0 := by omega
      clear hx0 hm0
      go_wp2
      go_ret
      exact ⟨rfl, H8.out.2.2⟩
    · have e1 : ((xs.length : Int) == 0) = false := beq_false_of_ne (by omega)
      have hx0' : 0 < xs.length := by omega
      have HX := Lib.hid hx0'
      clear hx0'
      by_cases hneg : a < 0
      case' pos =>
        have e2 : decide (a < 0) = true := decide_eq_true hneg
        have HM := Lib.hid (show 0 ≤ wrap64 (-wrap64 (a + 1)) by
          have := HI.out
          unfold wrap64
          omega)
        clear hneg
        go_upto_region 18 with (fail)
        clear e2 HI
        generalize wrap64 (-wrap64 (a + 1)) = m at *
      case' neg =>
        have e2 : decide (a < 0) = false := decide_eq_false hneg
        have HM := Lib.hid (show 0 ≤ a by omega)
        clear hneg
        go_upto_region 18 with (fail)
        clear e2 HI
        generalize a = m at *
      all_goals
        obtain ⟨q, hq, hqx⟩ : ∃ q : Nat, m.tmod (xs.length : Int) = (q : Int) ∧ q < xs.length := by
          have h1 := Int.tmod_nonneg (xs.length : Int) HM.out
          have h2 := Int.tmod_lt_of_pos m (show (0 : Int) < xs.length by have := HX.out; omega)
          exact ⟨(m.tmod (xs.length : Int)).toNat, by omega, by omega⟩
        have hqc : q ≤ c3 := by have := HR.out.1; omega
        have hqn : ((q : Int)).toNat = q := Int.toNat_natCast q
        have HQ := Lib.hid hqx
        clear hqx HM
        have hlq : (xs.take q).length = q := by
          have := HQ.out
          rw [List.length_take]
          exact Nat.min_eq_left (by omega)
        have hde := decode_calls (2 * xs.length + 1) w8 A3 (xs.take q) c3 (by rw [nums8_take]; exact (HR.out.2.1.below H8.out.1).take q) (HB.out.2.2.2.2.2.take q) (by omega) (by have := HW.out.2; have := HQ.out; omega) (by have := HQ.out; omega)
        unfold DecPost at hde
        rw [hlq] at hde
        have hh := HH.out q HQ.out
        generalize decS (2 * xs.length + 1) (xs.take q) = R at hde hh
        have HDE := Lib.hid hde
        have HL := Lib.hid hlq
        have HH := Lib.hid hh
        clear hde hh hlq
        go_wp2_with fail
        refine HDE.out.mono ?_
        rintro e w9 ⟨hb9, hres⟩
        have H9 := Lib.hid (show _ ∧ _ from ⟨hb9, H8.out.2.2.trans (hb9.mono H8.out.2.2.size)⟩)
        clear hb9 HDE
        cases R with
        | err er =>
          simp only at hres
          obtain ⟨hne, rfl⟩ := hres
          have he := HH.out.1 er rfl
          subst he
          have HN := Lib.hid hne
          clear hne hq hqc hqn
          go_wp2
          go_ret
          exact ⟨rfl, H9.out.2⟩
        | ok qs =>
          simp only at hres
          obtain ⟨h9, l9, rfl, hp9, ho9, _, _⟩ := hres
          obtain ⟨k1, k2, k3, k4, k5, k6⟩ := HH.out.2 qs rfl
          have hg9 := dec_good hp9 ho9 k4 k3
          have hle : l9.length ≤ ms.length := by
            have := congrArg List.length hp9
            rw [LT.pures_length, TT.maps_length] at this
            rw [LT.pures_length] at k6
            omega
          have hen := enc_any hg9 (by rw [k1, HL.out]; have := HW.out.2; have := HQ.out; omega) h9.cap w9 (Below.refl _ _)
          unfold EncPost at hen
          rw [encS_ok k2, k1, HL.out, k2] at hen
          have HEN := Lib.hid hen
          have HG := Lib.hid (show _ ∧ _ ∧ _ from ⟨hg9, k5, hle⟩)
          clear hen hg9 k1 k2 k3 k4 k5 k6 hle hp9 ho9
          go_wp2_with fail
          refine HEN.out.mono ?_
          rintro e w10 ⟨A10, c10, rfl, ho10, hb10⟩
          have hcm := cmp_any HG.out.1 H4.out.2.2.2 h9.cap h4.cap w10 hb10 ((H8.out.2.1.trans (H9.out.1.mono H8.out.2.1.size)).trans (hb10.mono (H8.out.2.1.trans (H9.out.1.mono H8.out.2.1.size)).size))
          unfold CmpP at hcm
          rw [HG.out.2.1] at hcm
          have H10 := Lib.hid (show _ ∧ _ ∧ _ from ⟨own_row (show OwnB w10 w9.heap.size (.slice A10 (xs.take q).length c10) (xs.take q) by rw [HL.out]; exact ho10), hb10, H9.out.2.trans (hb10.mono H9.out.2.size)⟩)
          have HCM := Lib.hid hcm
          clear hcm ho10 hb10 HEN
          go_wp2_with fail
          refine HCM.out.mono ?_
          rintro e w11 ⟨rfl, hb11⟩
          have h3 : Below w3.heap.size w3 w11 := by
            have h1 := H8.out.1.trans (H9.out.1.mono H8.out.1.size)
            have h2 := h1.trans (H10.out.2.1.mono h1.size)
            exact h2.trans (hb11.mono h2.size)
          have hsm : Calls Tryd.prog 18 #[.slice A10 q c10, .slice A3 q c3] w11 fun e w' => e = .returned (.bool true) ∧ Drawn0 w11 w' := by
            have := same_calls w11 A10 A3 (xs.take q) (xs.take q) c10 c3 (H10.out.1.2.1.below hb11) (by rw [nums8_take]; exact (HR.out.2.1.below h3).take q) (by rw [HL.out]; have := HR.out.2.2; have := HQ.out; omega)
            rw [HL.out] at this
            rwa [decide_eq_true rfl] at this
          have H11 := Lib.hid (show _ ∧ _ from ⟨hsm, H10.out.2.2.trans (hb11.mono H10.out.2.2.size)⟩)
          clear hsm h3 hb11 HCM
          have hle : decide (l9.length ≤ ms.length) = true := decide_eq_true HG.out.2.2
          go_wp2_with fail
          refine H11.out.1.mono ?_
          rintro e w12 ⟨rfl, ⟨nd, rfl⟩⟩
          clear hq hqc hqn
          go_wp2
          go_ret
          exact ⟨rfl, pw_below_drewN H11.out.2 _⟩
end Go.Proofs.YtplfmpcoojkjlaaDoor
