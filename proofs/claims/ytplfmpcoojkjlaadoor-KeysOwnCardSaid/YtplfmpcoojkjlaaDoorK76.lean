/- The walk of anew. -/
import Derived.Test.YtplfmpcoojkjlaaDoorK75
namespace Go.Proofs.YtplfmpcoojkjlaaDoor
open Go.RowKit Go.Proofs.YtplfmpcoojkjlaaDoorW.PrintWords
set_option maxRecDepth 100000 in
set_option maxHeartbeats 8000000 in
theorem anew_calls (w : World) (A : Option Addr) (ms : List (LT PS)) (c : Nat) (hA : RdL PS.enc w A ms) (hfm : TT.alls PS.fits (LT.pures ms)) (hw : TT.wts (LT.pures ms) ≤ 131072) (B : Option Addr) (xs : List Int) (d : Nat) (hB : Row w B (nums8 xs)) (hx : Byt xs) (hxl : xs.length ≤ 1099511627775) :
    Calls Tryd.prog 32 #[.slice A ms.length c, .slice B xs.length d] w fun e w' => e = .returned (.bool true) ∧ Below w.heap.size w w' := by
  have hcl := codL_len (LT.pures ms)
  have hml := TT.wts_len (LT.pures ms)
  have HV := Lib.hid (val_own w A c ms hA hfm (by omega) w (Below.refl _ _))
  have H0 := Lib.hid (show (codL (LT.pures ms)).length ≤ 1099511627775 ∧ (LT.pures ms).length ≤ 131072 ∧ _ ∧ _ ∧ _ from ⟨by omega, by omega, hB, hx, hxl⟩)
  clear hA hfm hw hB hx hxl hcl hml
  go_enter Tryd.func32, Tryd.ntmps32
  go_wp2_with fail
  refine HV.out.mono ?_
  rintro e w1 ⟨A1, ls, c1, rfl, hg1, ho1, hl1, hb1⟩
  have hen := enc_any hg1 H0.out.1 c1 w1 (Below.refl _ _)
  unfold EncPost at hen
  have HEN := Lib.hid hen
  have H1 := Lib.hid (show ls.length ≤ 131072 ∧ _ ∧ _ from ⟨by have := H0.out.2.1; omega, ho1, hb1⟩)
  clear hg1 ho1 hl1 hb1 hen
  go_wp2_with fail
  refine HEN.out.mono ?_
  rintro e w2 ⟨A2, c2, rfl, _, hb2⟩
  have ho2 : OwnN w2 w.heap.size (.slice A1 ls.length c1) ls := ownsRow_move H1.out.2.1 fun k hk => hb2.block k (own_lt H1.out.2.1 k hk)
  have H2 := Lib.hid (show _ ∧ _ from ⟨ho2, H1.out.2.2.trans (hb2.mono H1.out.2.2.size)⟩)
  clear ho2 hb2 HEN
  go_wp2
  go_loopw [6] (fun vi wr => ∃ i : Nat, i ≤ ls.length ∧ vi = .int .i64 i ∧ OwnN wr w.heap.size (.slice A1 ls.length c1) (fill (fun i => lfN 3 (7 - (i : Int))) i ++ ls.drop i) ∧ Below w.heap.size w wr) (fun vi _ => ls.length - (intOf vi).toNat)
  case atStart => exact ⟨0, by omega, rfl, H2.out.1, H2.out.2⟩
  case round =>
    obtain ⟨i, hi, rfl, ho, hb⟩ := hrel
    have HW := Lib.hid (show _ ∧ _ from ⟨ho, hb⟩)
    clear ho hb
    by_cases hlt : i < ls.length
    · have hil : (i : Int) < (ls.length : Int) := by omega
      have hil2 : i ≤ 131072 := by have := H1.out.1; omega
      have hcut := fill_cut (fun i => lfN 3 (7 - (i : Int))) i ls (by omega)
      obtain ⟨rfl, h0⟩ | ⟨g, rfl, hx⟩ := own_first (show World.ownsRow wr w.heap.size 46 7 (.slice A1 ls.length c1) _ _ from HW.out.1)
      · omega
      have HO := Lib.hid (show _ ∧ _ from ⟨hcut, hlt⟩)
      clear hcut hx
      go_wp2_with (((with_reducible refine gate_store (p := 36) rfl ?_); go_loud (refine store_node rfl rfl (.tmp 36) (.tmp 35) rfl i (lfN 3 (7 - (i : Int))) rfl rfl (ls := fill (fun i => lfN 3 (7 - (i : Int))) i ++ ls.drop i) (c := c1) (by rw [HO.out.1]; exact HW.out.1) (by rw [HO.out.1]; exact HO.out.2) ?_); intro w3 ho3 hb3 _; have H3 := Lib.hid (show _ ∧ _ from ⟨ho3, hb3⟩); clear ho3 hb3))
      go_roundw
      case rel =>
        refine ⟨i + 1, by omega, by go_num, ?_, HW.out.2.trans H3.out.2⟩
        have h := H3.out.1
        rw [HO.out.1, fill_step _ i ls HO.out.2] at h
        exact h
      case measure => simp [intOf]; omega
    · obtain rfl : i = ls.length := by omega
      have ho := HW.out.1
      rw [List.drop_length, List.append_nil] at ho
      have HR := Lib.hid (show Row wr A1 (rowCells VS.enc (fill (fun i => lfN 3 (7 - (i : Int))) ls.length)) from (OwnN.view ho).1)
      obtain ⟨hg, hwt⟩ := good_fill HR.out (by have := H1.out.1; omega) (fun i hi => ⟨rfl, rfl, lfN_fit _ _ (by have := H1.out.1; omega) (by omega)⟩)
      have hcl := codL_len (TT.maps VS.ps (LT.pures (fill (fun i => lfN 3 (7 - (i : Int))) ls.length)))
      generalize hps : TT.maps VS.ps (LT.pures (fill (fun i => lfN 3 (7 - (i : Int))) ls.length)) = ps at *
      clear hps
      have hfl := fill_len (fun i => lfN 3 (7 - (i : Int))) ls.length
      generalize fill (fun i => lfN 3 (7 - (i : Int))) ls.length = fs at *
      have HF := Lib.hid (show _ ∧ (codL ps).length ≤ 1099511627775 ∧ _ from ⟨hg, by have := H1.out.1; omega, hfl⟩)
      have hen := enc_any hg HF.out.2.1 c1 wr (Below.refl _ _)
      rw [hfl] at hen
      unfold EncPost at hen
      have HEN := Lib.hid hen
      have HB := HW.out.2
      have HB := Lib.hid HB
      clear HW HV H2 ho hg hwt hcl hen hlt hi hfl
      go_wp2_with fail
      refine HEN.out.mono ?_
      rintro e w4 ⟨A4, c4, rfl, ho4, hb4⟩
      have hb4' := HB.out.trans (hb4.mono HB.out.size)
      have H4 := Lib.hid (show _ ∧ _ ∧ _ ∧ _ ∧ _ from ⟨ho4, hb4, hb4', HF.out.1.rd.row.below hb4, H0.out.2.2.1.below hb4'⟩)
      clear ho4 hb4 hb4' HEN
      go_wp2_with (((with_reducible refine gate_dst (N := 45) rfl ?_); go_loud (refine copy_nodes rfl (.tmp 43) (.tmp 44) rfl A1 c1 fs rfl (by rw [HF.out.2.2]; rfl) H4.out.2.2.2.1 (by have := HF.out.2.2; have := H1.out.1; omega) ?_); intro A5 c5 w5 ho5 hb5; have H5 := Lib.hid (show _ ∧ _ from ⟨ho5, hb5⟩); clear ho5 hb5))
      have hb5 := H4.out.2.1.trans (H5.out.2.mono H4.out.2.1.size)
      have hg5 : Good w5 A5 fs ps := HF.out.1.copy hb5 H5.out.1.view.1
      have hen := enc_any hg5 HF.out.2.1 c5 w5 (Below.refl _ _)
      unfold EncPost at hen
      have HEN := Lib.hid hen
      have HB5 := Lib.hid (H4.out.2.2.1.trans (H5.out.2.mono H4.out.2.2.1.size))
      clear hen hb5 hg5
      refine HEN.out.mono ?_
      rintro e w6 ⟨A6, c6, rfl, ho6, hb6⟩
      have hb6' := HB5.out.trans (hb6.mono HB5.out.size)
      have H6 := Lib.hid (show _ ∧ _ ∧ _ ∧ _ from ⟨ho6, H5.out.2.trans (hb6.mono H5.out.2.size), hb6', H0.out.2.2.1.below hb6'⟩)
      have HS := Lib.hid (show Row w6 A4 (nums8 (encS ps)) ∧ Row w6 A6 (nums8 (encS ps)) ∧ (encS ps).length ≤ 9223372036854775807 from ⟨(own_row H4.out.1).2.1.below H6.out.2.1, (own_row ho6).2.1, (own_row ho6).2.2⟩)
      clear ho6 hb6 hb6' HEN
      go_wp2_with (((with_reducible refine gate_dst (N := 51) rfl ?_); go_loud (refine copy_bytes rfl (.tmp 49) (.tmp 50) rfl B d xs.length xs rfl rfl rfl H6.out.2.2.2 (by have := H0.out.2.2.2.2; omega) ?_); intro A7 c7 w7 ho7 hb7; have H7 := Lib.hid (show _ ∧ _ from ⟨ho7, hb7⟩); clear ho7 hb7))
      have hr7 := own_row (show World.ownsRow w7 w6.heap.size 5 1 (.slice A7 xs.length c7) xs.length (nums8 xs) from H7.out.1)
      have HDE := Lib.hid (dec_any w7 A7 xs c7 xs.length rfl hr7.2.1 H0.out.2.2.2.1 hr7.1 (by have := H0.out.2.2.2.2; omega))
      have HB7 := Lib.hid (show _ ∧ _ ∧ _ from ⟨H6.out.2.2.1.trans (H7.out.2.mono H6.out.2.2.1.size), H7.out.2, hr7.1⟩)
      clear hr7
      refine HDE.out.mono ?_
      rintro e w8 ⟨h8, l8, er8, rfl, hb8⟩
      have ho8 : OwnB w8 w6.heap.size (.slice A7 xs.length c7) xs := OwnB.keep H7.out.1 hb8
      have H8 := Lib.hid (show _ ∧ _ ∧ _ ∧ _ from ⟨ho8, hb8.mono (by have := H7.out.2.size; omega), HB7.out.1.trans (hb8.mono HB7.out.1.size), HB7.out.2.1.trans (hb8.mono HB7.out.2.1.size)⟩)
      clear ho8 hb8 HDE
      go_wp2
      go_loopw [12] (fun vi wr => ∃ i : Nat, i ≤ xs.length ∧ vi = .int .i64 i ∧ OwnB wr w6.heap.size (.slice A7 xs.length c7) (List.replicate i 1 ++ xs.drop i) ∧ Below w6.heap.size w8 wr) (fun vi _ => xs.length - (intOf vi).toNat)
      case atStart => exact ⟨0, by omega, rfl, H8.out.1, Below.refl _ _⟩
      case round =>
        obtain ⟨i, hi, rfl, ho, hb⟩ := hrel
        have HW := Lib.hid (show _ ∧ _ from ⟨ho, hb⟩)
        clear ho hb
        by_cases hlt : i < xs.length
        · have hil : (i : Int) < (xs.length : Int) := by omega
          have hil2 : i ≤ 1099511627775 := by have := H0.out.2.2.2.2; omega
          have hcut : (List.replicate i (1 : Int) ++ xs.drop i).length = xs.length := by rw [List.length_append, List.length_replicate, List.length_drop]; omega
          have hown : wr.ownsRow w6.heap.size 5 1 (.slice A7 xs.length c7) xs.length (nums .u8 (List.replicate i (1 : Int) ++ xs.drop i)) := by
            have h := HW.out.1
            unfold OwnB at h
            rw [hcut] at h
            exact h
          obtain ⟨rfl, h0⟩ | ⟨g, rfl, hx⟩ := own_first hown
          · omega
          have hat := own_at hown i (by omega) (by omega)
          rw [Int.toNat_natCast] at hat
          obtain ⟨b1, b2⟩ := hat
          have hst := (own_store hown (i : Int) 1).1
          rw [Int.toNat_natCast, ones_step i xs hlt] at hst
          have HO := Lib.hid (show _ ∧ _ ∧ _ from ⟨hst, hx.2.1, hlt⟩)
          clear hst hx hcut hown
          generalize rd (List.replicate i (1 : Int) ++ xs.drop i) i = x at *
          go_wp2_with fail
          go_roundw
          case rel =>
            refine ⟨i + 1, by omega, by go_num, ?_, HW.out.2.setCell (p := ⟨g, i, none⟩) HO.out.2.1 _⟩
            have h := HO.out.1
            unfold OwnB
            rw [show (List.replicate (i + 1) (1 : Int) ++ xs.drop (i + 1)).length = xs.length by rw [List.length_append, List.length_replicate, List.length_drop]; have := HO.out.2.2; omega]
            exact h
          case measure => simp [intOf]; omega
        · obtain rfl : i = xs.length := by omega
          have hr9 : Row wr A7 (nums8 (List.replicate xs.length 1)) := by
            have h := (OwnB.view HW.out.1).1
            rwa [List.drop_length, List.append_nil] at h
          have HB9 := Lib.hid (show _ ∧ _ ∧ _ from ⟨H8.out.2.2.2.trans HW.out.2, H8.out.2.2.1.trans (HW.out.2.mono H6.out.2.2.1.size), hr9⟩)
          have HDE := Lib.hid (dec_ones wr A7 xs.length c7 hr9 HB7.out.2.2 (by have := H0.out.2.2.2.2; omega))
          clear HW hr9 hlt hi
          go_wp2_with fail
          refine HDE.out.mono ?_
          rintro e w10 ⟨A10, c10, l10, rfl, hr10, hl10, hk10, hb10⟩
          have H10 := Lib.hid (show _ ∧ _ ∧ _ ∧ _ ∧ _ ∧ _ from ⟨hr10, hl10, hk10, HB9.out.1.trans (hb10.mono HB9.out.1.size), HB9.out.2.1.trans (hb10.mono HB9.out.2.1.size), HB9.out.2.2.below hb10⟩)
          clear hr10 hl10 hk10 hb10 HDE
          go_wp2_with (((with_reducible refine gate_dst (N := 74) rfl ?_); go_loud (refine copy_bytes rfl (.tmp 72) (.tmp 73) rfl A7 c7 xs.length (List.replicate xs.length 1) rfl rfl (by simp) H10.out.2.2.2.2.2 (by have := H0.out.2.2.2.2; simp; omega) ?_); intro A11 c11 w11 ho11 hb11; have H11 := Lib.hid (show _ ∧ _ from ⟨ho11, hb11⟩); clear ho11 hb11))
          have hr11 : xs.length ≤ c11 ∧ Row w11 A11 (nums8 (List.replicate xs.length 1)) ∧ _ := own_row (n := xs.length) (by have h := H11.out.1; unfold OwnB at h; rw [List.length_replicate] at h; exact h)
          have HDE := Lib.hid (dec_ones w11 A11 xs.length c11 hr11.2.1 hr11.1 (by have := H0.out.2.2.2.2; omega))
          clear hr11
          refine HDE.out.mono ?_
          rintro e w12 ⟨A12, c12, l12, rfl, hr12, hl12, hk12, hb12⟩
          have h1012 : Below w10.heap.size w10 w12 := H11.out.2.trans (hb12.mono H11.out.2.size)
          have hsm : ∀ w', Drawn0 w12 w' → Calls Tryd.prog 18 #[.slice A4 (encS ps).length c4, .slice A6 (encS ps).length c6] w' fun e w'' => e = .returned (.bool true) ∧ Drawn0 w' w'' := by
            intro w' hd
            have hb : Below w6.heap.size w6 w' := (H10.out.2.2.2.1.trans (h1012.mono H10.out.2.2.2.1.size)).trans (hd.below.mono (by have := H10.out.2.2.2.1.size; have := h1012.size; omega))
            have h := same_calls w' A4 A6 (encS ps) (encS ps) c4 c6 (HS.out.1.below hb) (HS.out.2.1.below hb) HS.out.2.2
            rwa [decide_eq_true rfl] at h
          have H12 := Lib.hid (show _ ∧ _ ∧ _ ∧ _ ∧ _ ∧ _ from ⟨hr12, hl12, hk12, H10.out.2.2.2.2.1.trans (h1012.mono H10.out.2.2.2.2.1.size), H10.out.1.below h1012, hsm⟩)
          clear hr12 hl12 hk12 hb12 h1012 hsm HDE
          go_wp2_with fail
          refine (H12.out.2.2.2.2.2 _ (Drawn0.refl _)).mono ?_
          rintro e w13 ⟨rfl, hd⟩
          have H13 := Lib.hid (show _ ∧ _ ∧ _ from ⟨H12.out.2.2.2.1.trans (hd.below.mono H12.out.2.2.2.1.size), H12.out.2.2.2.2.1.below hd.below, H12.out.1.below hd.below⟩)
          clear hd
          go_wp2
          go_loopw [17] (fun vi wr => ∃ i : Nat, i ≤ xs.length ∧ vi = .int .i64 i ∧ Drawn0 w13 wr) (fun vi _ => xs.length - (intOf vi).toNat)
          case atStart => exact ⟨0, by omega, rfl, Drawn0.refl _⟩
          case round =>
            obtain ⟨i, hi, rfl, hd⟩ := hrel
            have HD := Lib.hid hd
            clear hd
            by_cases hlt : i < xs.length
            · have hil : (i : Int) < (xs.length : Int) := by omega
              have hil2 : i ≤ 1099511627775 := by have := H0.out.2.2.2.2; omega
              have hk : ∀ (w' : World) (C : Option Addr) (ls : List (LT VS)), Row w' C (rowCells VS.enc ls) → ls.length = xs.length → (∀ l ∈ ls, l.s.kind = 1) → ∃ b o, C = some ⟨b, o, none⟩ ∧ w'.cell? ⟨b, o + i * 7, none⟩ = some (.int .i64 1) := by
                intro w' C ls hr hl hk
                have hi' : i < ls.length := by omega
                rcases hr with h | ⟨b, o, e, hb, hc⟩
                · have := congrArg List.length h
                  rw [rowCells_length VS.enc5] at this
                  simp at this
                  omega
                · refine ⟨b, o, e, ?_⟩
                  have h1 := hc (i * 7 + 0) (.int .i64 1) (by
                    rw [rowCells_get VS.enc5 ls i hi' 0 (by omega)]
                    have := hk _ (List.getElem_mem hi')
                    rw [← this]
                    rfl)
                  exact h1
              obtain ⟨b1, o1, e1, c1'⟩ := hk wr A10 l10 (H13.out.2.1.below HD.out.below) H10.out.2.1 H10.out.2.2.1
              obtain ⟨b2, o2, e2, c2'⟩ := hk wr A12 l12 (H13.out.2.2.below HD.out.below) H12.out.2.1 H12.out.2.2.1
              subst e1 e2
              clear hk
              go_upto_region 22 with (fail)
              go_region
              all_goals
                go_wp2
                go_roundw
                case rel => exact ⟨i + 1, by omega, by go_num, by first | exact HD.out | (exact HD.out.drew) | (exact HD.out.step 1)⟩
                case measure => simp [intOf]; omega
            · obtain rfl : i = xs.length := by omega
              go_wp2
              go_ret
              exact ⟨rfl, H13.out.1.trans (HD.out.below.mono H13.out.1.size)⟩
end Go.Proofs.YtplfmpcoojkjlaaDoor
