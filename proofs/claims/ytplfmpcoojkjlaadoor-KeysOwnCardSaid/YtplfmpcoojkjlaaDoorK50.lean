/- The walk of the program's lay: the code of a good row put behind bytes. -/
import Derived.Test.YtplfmpcoojkjlaaDoorK49
import Derived.Test.YtplfmpcoojkjlaaDoorK42
namespace Go.Proofs.YtplfmpcoojkjlaaDoor
open Go.RowKit Go.Proofs.YtplfmpcoojkjlaaDoorW.PrintWords
def LayAt (n : Nat) : Prop := ∀ (w0 w : World) (v : Value) (acc : List Int) (A : Option Addr) (c deep : Nat) (ls : List (LT VS)), LT.cnts ls ≤ n → RdL VS.enc w0 A ls → Below w0.heap.size w0 w → OwnB w w0.heap.size v acc →
  TT.flts VS.kind (LT.pures ls) deep = 0 → TT.alls VS.fit (LT.pures ls) → acc.length + (codL (TT.maps VS.ps (LT.pures ls))).length ≤ 1099511627776 →
  Calls Tryd.prog 39 #[v, .slice A ls.length c] w fun e w' => ∃ v', e = .returned v' ∧ OwnB w' w0.heap.size v' (acc ++ codL (TT.maps VS.ps (LT.pures ls))) ∧ Below w0.heap.size w0 w'
/-- Where the walk of lay stands. -/
structure Sl (w0 w : World) (v : Value) (acc : List Int) : Prop where
  own : OwnB w w0.heap.size v acc
  below : Below w0.heap.size w0 w
theorem Sl.step {w0 w w1 : World} {v v1 : Value} {acc acc1 : List Int} (h : Sl w0 w v acc) (ho : OwnB w1 w0.heap.size v1 acc1) (hb : Below w0.heap.size w w1) : Sl w0 w1 v1 acc1 := ⟨ho, h.below.trans hb⟩
theorem Sl.keep {w0 w w1 : World} {v : Value} {acc : List Int} (h : Sl w0 w v acc) (hb : Below w.heap.size w w1) : Sl w0 w1 v acc := ⟨h.own.keep hb, h.below.trans (hb.mono h.below.size)⟩
theorem vflt_ok {s : VS} {t : List Int} {ps : List (TT VS)} {deep : Nat} (h : (TT.mk s t ps).flt VS.kind deep = 0) : 1 ≤ s.kind ∧ s.kind ≤ 7 ∧ (s.kind = 7 → deep ≠ 16 ∧ TT.flts VS.kind ps (deep + 1) = 0) := by
  simp only [TT.flt] at h
  split at h
  · cases h
  · rename_i h1
    refine ⟨by omega, by omega, fun h7 => ?_⟩
    rw [if_pos h7] at h
    split at h
    · cases h
    · rename_i h2
      exact ⟨h2, h⟩
theorem blk_snd (w : World) (A B : Obj) : ((w.alloc A).alloc B).heap[w.heap.size + 1]? = some B := by
  have h : (w.alloc A).heap.size = w.heap.size + 1 := by simp
  rw [← h]
  exact blk_new _ _
set_option maxRecDepth 100000 in
set_option maxHeartbeats 4000000 in
theorem lay_of (n : Nat) (HI : ∀ m, m < n → LayAt m) : LayAt n := by
  intro w0 w v acc A c deep ls hcnt hA hw hv hf hp hl
  have hml : ls.length ≤ 9223372036854775807 := hA.len
  have HREC := Lib.hid HI
  have H0 := Lib.hid (show _ ∧ _ ∧ _ ∧ _ ∧ _ from ⟨hcnt, hA, hf, hp, hl⟩)
  have HV := Lib.hid (Sl.mk hv hw)
  clear HI hcnt hA hf hp hl hw hv
  go_enter Tryd.func39, Tryd.ntmps39
  go_wp2
  go_loopw [0, 10] (fun vv vi wr => ∃ k : Nat, k ≤ ls.length ∧ vi = .int .i64 k ∧ Sl w0 wr vv (acc ++ codL (TT.maps VS.ps ((LT.pures ls).take k)))) (fun _ vi _ => ls.length - (intOf vi).toNat)
  case atStart => exact ⟨0, by omega, rfl, by simpa [TT.maps, codL] using HV.out⟩
  case round =>
    obtain ⟨k, hk, rfl, hst⟩ := hrel
    have HW := Lib.hid hst
    clear hst
    by_cases hlt : k < ls.length
    · obtain ⟨b, o, rfl, hblt, hcs, hrw⟩ := H0.out.2.1.get VS.enc5 k hlt
      have hlp : k < (LT.pures ls).length := by rw [LT.pures_length]; exact hlt
      have hel : (LT.pures ls)[k] = (ls[k]).pure := by simp [LT.pures_map]
      have hmem : (ls[k]).pure ∈ LT.pures ls := by rw [LT.pures_map]; exact List.mem_map_of_mem (List.getElem_mem hlt)
      have hsplit : (LT.pures ls).take (k + 1) = (LT.pures ls).take k ++ [(ls[k]).pure] := by rw [List.take_succ_eq_append_getElem hlp, hel]
      have hflt : (ls[k]).pure.flt VS.kind deep = 0 := TT.flts_mem H0.out.2.2.1 hmem
      have hfit : (ls[k]).pure.all VS.fit := TT.alls_mem H0.out.2.2.2.1 hmem
      have htot : acc.length + (codL (TT.maps VS.ps ((LT.pures ls).take (k + 1)))).length ≤ 1099511627776 := by
        refine Nat.le_trans (Nat.add_le_add_left ?_ _) H0.out.2.2.2.2
        conv => rhs; rw [← List.take_append_drop (k + 1) (LT.pures ls), TT.maps_append, codL_app, List.length_append]
        omega
      have hcp : LT.cnts (ls[k]).parts < n := by
        have h1 := LT.cnt_parts ls[k]
        have h2 := LT.cnt_mem (List.getElem_mem hlt)
        have := H0.out.1
        omega
      rw [hsplit, TT.maps_append, codL_app] at htot
      generalize ls[k] = m at *
      obtain ⟨⟨kd, bb, nn, rl, re, im⟩, ⟨tA, tc⟩, tx, ph, ps⟩ := m
      simp only [LT.pure] at hflt hfit htot hsplit
      simp only [TT.maps, codL, List.append_nil, List.length_append] at htot
      have kp := vflt_ok hflt
      dsimp only at kp
      have hbw := HW.out.below
      have hc := fun j u hj hu => (hbw.cell (p := ⟨b, o + (k * 7 + j), none⟩) hblt).trans (hcs j u hj hu)
      have b0 : wr.cell? ⟨b, o + k * 7, none⟩ = some (.int .i64 kd) := rd_cell7 0 hc (by omega) rfl
      have hk1 : 1 ≤ kd := kp.1
      have hk7 : kd ≤ 7 := kp.2.1
      have HX := Lib.hid (show _ ∧ _ ∧ _ ∧ _ ∧ _ ∧ _ ∧ _ ∧ _ from ⟨hrw, kp.2.2, hfit, htot, hcp, hsplit, hcs, hblt⟩)
      clear hc hcs hrw hflt hfit htot hcp kp hsplit hmem hel hlp hbw hblt
      go_upto_region 6 with (((with_reducible refine gate_dst (N := 23) rfl ?_); go_loud (refine app_byte rfl (.tmp 16) (.tmp 22) rfl w0.heap.size u0 (acc ++ codL (TT.maps VS.ps ((LT.pures ls).take k))) kd wr.heap.size rfl rfl rfl HW.out.own (by have := HX.out.2.2.2.1; rw [List.length_append]; omega) HW.out.below.size ?_); intro v2 w2 ho2 hb2 _; have H2 := Lib.hid (HW.out.step ho2 hb2); clear ho2 hb2 b0))
      have hcell : ∀ w', Below w0.heap.size w0 w' → ∀ j u, j < 7 → ((LT.mk (⟨kd, bb, nn, rl, re, im⟩ : VS) ⟨tA, tc⟩ tx ph ps).cells VS.enc)[j]? = some u → w'.cell? ⟨b, o + k * 7 + j, none⟩ = some u := fun w' hb j u hj hu => by
        rw [Nat.add_assoc]
        exact (hb.cell (p := ⟨b, o + (k * 7 + j), none⟩) HX.out.2.2.2.2.2.2.2).trans (HX.out.2.2.2.2.2.2.1 j u hj hu)
      have HCE := Lib.hid hcell
      clear hcell
      have y0 : w2.cell? ⟨b, o + k * 7, none⟩ = some (.int .i64 kd) := HCE.out _ H2.out.below 0 _ (by omega) rfl
      have hclose : ∀ v3 w3 acc3, Sl w0 w3 v3 acc3 → acc3 = acc ++ codL (TT.maps VS.ps ((LT.pures ls).take k)) ++ codT ((TT.mk ⟨kd, bb, nn, rl, re, im⟩ tx (LT.pures ps)).map VS.ps) → Sl w0 w3 v3 (acc ++ codL (TT.maps VS.ps ((LT.pures ls).take (k + 1)))) := fun v3 w3 acc3 h e => by
        subst e
        rw [HX.out.2.2.2.2.2.1, TT.maps_append, codL_app]
        simpa [codL, TT.maps] using h
      have HC := Lib.hid hclose
      have hlen : (acc ++ codL (TT.maps VS.ps ((LT.pures ls).take k))).length ≤ 1099511627776 := by have := HX.out.2.2.2.1; rw [List.length_append]; omega
      have htt : (acc ++ codL (TT.maps VS.ps ((LT.pures ls).take k))).length + (codT ((TT.mk ⟨kd, bb, nn, rl, re, im⟩ tx (LT.pures ps)).map VS.ps)).length ≤ 1099511627776 := by
        have := HX.out.2.2.2.1
        rw [List.length_append]
        omega
      have HTT := Lib.hid htt
      clear hclose htt
      generalize acc ++ codL (TT.maps VS.ps ((LT.pures ls).take k)) = ac at *
      by_cases h1 : kd = 1
      · subst h1
        go_wp2
        go_roundw
        case rel => exact ⟨k + 1, by omega, by go_num, HC.out _ _ _ H2.out (by simp [codT, TT.map, VS.ps])⟩
        case measure => simp [intOf]; omega
      by_cases h2 : kd = 2
      · subst h2
        have y1 : w2.cell? ⟨b, o + k * 7 + 1, none⟩ = some (.bool bb) := HCE.out _ H2.out.below 1 _ (by omega) rfl
        cases bb
        · go_wp2_with (((with_reducible refine gate_dst (N := 39) rfl ?_); go_loud (refine app_byte rfl (.tmp 36) (.tmp 38) rfl w0.heap.size v2 (ac ++ [2]) 0 w2.heap.size rfl rfl rfl H2.out.own (by simp; omega) H2.out.below.size ?_); intro v3 w3 ho3 hb3 _; have H3 := Lib.hid (H2.out.step ho3 hb3); clear ho3 hb3))
          go_roundw
          case rel => exact ⟨k + 1, by omega, by go_num, HC.out _ _ _ H3.out (by simp [codT, TT.map, VS.ps, b2i])⟩
          case measure => simp [intOf]; omega
        · go_wp2_with (((with_reducible refine gate_dst (N := 39) rfl ?_); go_loud (refine app_byte rfl (.tmp 36) (.tmp 38) rfl w0.heap.size v2 (ac ++ [2]) 1 w2.heap.size rfl rfl rfl H2.out.own (by simp; omega) H2.out.below.size ?_); intro v3 w3 ho3 hb3 _; have H3 := Lib.hid (H2.out.step ho3 hb3); clear ho3 hb3))
          go_roundw
          case rel => exact ⟨k + 1, by omega, by go_num, HC.out _ _ _ H3.out (by simp [codT, TT.map, VS.ps, b2i])⟩
          case measure => simp [intOf]; omega
      have h2b : (kd == 2) = false := by simpa using h2
      by_cases h3 : kd = 3
      · subst h3
        have y2 : w2.cell? ⟨b, o + k * 7 + 2, none⟩ = some (.int .i64 nn) := HCE.out _ H2.out.below 2 _ (by omega) rfl
        have hz : -9223372036854775808 ≤ nn ∧ nn ≤ 9223372036854775807 := HX.out.2.2.1.1.2.2.2.2
        have hq := xor_int nn hz.1 hz.2
        have hqb : (nn + 9223372036854775808).toNat < 18446744073709551616 := by omega
        clear hz
        have HCC := Lib.hid (show ∀ acc3, acc3 = ac ++ [3] ++ be 8 (nn + 9223372036854775808).toNat → acc3 = ac ++ codT ((TT.mk ⟨3, bb, nn, rl, re, im⟩ tx (LT.pures ps)).map VS.ps) from fun acc3 h => by rw [h]; simp [codT, TT.map, VS.ps])
        generalize (nn + 9223372036854775808).toNat = q at *
        have HQ := Lib.hid hqb
        clear hqb
        go_wp2_with fail
        refine (eight_calls w2 q HQ.out v2 (ac ++ [3]) w0.heap.size H2.out.own H2.out.below.size (by have := HTT.out; simp [codT, TT.map, VS.ps, be_length] at this ⊢; omega)).mono ?_
        rintro e w3 ⟨v3, rfl, ho3, hb3, _⟩
        have H3 := Lib.hid (H2.out.step ho3 hb3)
        clear ho3 hb3 hq y0 y2
        go_wp2
        go_roundw
        case rel => exact ⟨k + 1, by omega, by go_num, HC.out _ _ _ H3.out (HCC.out _ rfl)⟩
        case measure => simp [intOf]; omega
      have h3b : (kd == 3) = false := by simpa using h3
      by_cases h4 : kd = 4
      · subst h4
        have y3 : w2.cell? ⟨b, o + k * 7 + 3, none⟩ = some (.float .f64 rl) := HCE.out _ H2.out.below 3 _ (by omega) rfl
        have HCC := Lib.hid (show ∀ acc3, acc3 = ac ++ [4] ++ be 8 (rankB rl) → acc3 = ac ++ codT ((TT.mk ⟨4, bb, nn, rl, re, im⟩ tx (LT.pures ps)).map VS.ps) from fun acc3 h => by rw [h]; simp [codT, TT.map, VS.ps])
        have HT := Lib.hid (fun w => rank_calls w rl HX.out.2.2.1.1.1)
        have HQ := Lib.hid (rankB_lt rl HX.out.2.2.1.1.1)
        generalize rankB rl = q at *
        go_wp2_with fail
        refine (HT.out w2).mono ?_
        rintro e w3 ⟨rfl, rfl⟩
        go_wp2_with fail
        refine (eight_calls _ q HQ.out v2 (ac ++ [4]) w0.heap.size H2.out.own H2.out.below.size (by have := HTT.out; simp [codT, TT.map, VS.ps, be_length] at this ⊢; omega)).mono ?_
        rintro e w4 ⟨v3, rfl, ho3, hb3, _⟩
        have H3 := Lib.hid (H2.out.step ho3 hb3)
        clear ho3 hb3 y0 y3
        go_wp2
        go_roundw
        case rel => exact ⟨k + 1, by omega, by go_num, HC.out _ _ _ H3.out (HCC.out _ rfl)⟩
        case measure => simp [intOf]; omega
      have h4b : (kd == 4) = false := by simpa using h4
      by_cases h5 : kd = 5
      · subst h5
        have y4 : w2.cell? ⟨b, o + k * 7 + 4, none⟩ = some (.complex .f64 re im) := HCE.out _ H2.out.below 4 _ (by omega) rfl
        have HCC := Lib.hid (show ∀ acc3, acc3 = ac ++ [5] ++ be 8 (rankB re) ++ be 8 (rankB im) → acc3 = ac ++ codT ((TT.mk ⟨5, bb, nn, rl, re, im⟩ tx (LT.pures ps)).map VS.ps) from fun acc3 h => by rw [h]; simp [codT, TT.map, VS.ps])
        have HT := Lib.hid (show _ ∧ _ from ⟨fun w => rank_calls w re HX.out.2.2.1.1.2.1, fun w => rank_calls w im HX.out.2.2.1.1.2.2.1⟩)
        have HQ := Lib.hid (show _ ∧ _ from ⟨rankB_lt re HX.out.2.2.1.1.2.1, rankB_lt im HX.out.2.2.1.1.2.2.1⟩)
        generalize rankB re = q at *
        generalize rankB im = q2 at *
        go_wp2_with fail
        refine (HT.out.1 w2).mono ?_
        rintro e w3 ⟨rfl, rfl⟩
        go_wp2_with fail
        refine (eight_calls _ q HQ.out.1 v2 (ac ++ [5]) w0.heap.size H2.out.own H2.out.below.size (by have := HTT.out; simp [codT, TT.map, VS.ps, be_length] at this ⊢; omega)).mono ?_
        rintro e w4 ⟨v3, rfl, ho3, hb3, _⟩
        have H3 := Lib.hid (H2.out.step ho3 hb3)
        clear ho3 hb3 y0 y4
        have z4 : w4.cell? ⟨b, o + k * 7 + 4, none⟩ = some (.complex .f64 re im) := HCE.out _ H3.out.below 4 _ (by omega) rfl
        go_wp2_with fail
        refine (HT.out.2 w4).mono ?_
        rintro e w5 ⟨rfl, rfl⟩
        go_wp2_with fail
        refine (eight_calls _ q2 HQ.out.2 v3 (ac ++ [5] ++ be 8 q) w0.heap.size H3.out.own H3.out.below.size (by have := HTT.out; simp [codT, TT.map, VS.ps, be_length] at this ⊢; omega)).mono ?_
        rintro e w6 ⟨v5, rfl, ho5, hb5, _⟩
        have H5 := Lib.hid (H3.out.step ho5 hb5)
        clear ho5 hb5 z4
        go_wp2
        go_roundw
        case rel => exact ⟨k + 1, by omega, by go_num, HC.out _ _ _ H5.out (HCC.out _ rfl)⟩
        case measure => simp [intOf]; omega
      have h5b : (kd == 5) = false := by simpa using h5
      by_cases h6 : kd = 6
      · subst h6
        have y5 : w2.cell? ⟨b, o + k * 7 + 5, none⟩ = some (.slice tA tx.length tc) := HCE.out _ H2.out.below 5 _ (by omega) rfl
        have hct : codT ((TT.mk ⟨6, bb, nn, rl, re, im⟩ tx (LT.pures ps)).map VS.ps) = 6 :: (esc tx ++ [0]) := by simp [codT, TT.map, VS.ps]
        have hes : ac.length + (esc tx).length + 2 ≤ 1099511627776 := by
          have := HTT.out
          rw [hct] at this
          simp at this
          omega
        have HCC := Lib.hid (show ∀ acc3, acc3 = ac ++ [6] ++ esc tx ++ [0] → acc3 = ac ++ codT ((TT.mk ⟨6, bb, nn, rl, re, im⟩ tx (LT.pures ps)).map VS.ps) from fun acc3 h => by rw [h, hct]; simp)
        clear hct
        have htl : tx.length ≤ 9223372036854775807 := HX.out.1.textLen
        have hb23 : ∀ O1 O2, Below w2.heap.size w2 ((w2.alloc O1).alloc O2) := fun O1 O2 => ((Below.refl _ _).alloc (Nat.le_refl _) _).alloc (by simp) _
        have HB23 := Lib.hid hb23
        clear hb23
        go_wp2_with fail
        refine (replaceAll_calls _ tA tx tc w2.heap.size (w2.heap.size + 1) (HX.out.1.textRow.below (H2.out.below.trans ((HB23.out _ _).mono H2.out.below.size))) HX.out.2.2.1.1.2.2.2.1 (by omega) HX.out.1.textCap ((blk_cell (blk_alloc (blk_new w2 _) _) 0).trans rfl) (by simp; omega) ((blk_cell (blk_snd w2 _ _) 0).trans rfl) ((blk_cell (blk_snd w2 _ _) 1).trans rfl) (by simp)).mono ?_
        rintro e w3 ⟨A3, c3, rfl, hr3, hb3⟩
        have H3 := Lib.hid (show _ ∧ _ from ⟨H2.out.keep ((HB23.out _ _).trans (hb3.mono (HB23.out _ _).size)), hr3⟩)
        clear hr3 hb3 y0 y5
        go_upto_region 21 with (((with_reducible refine gate_dst (N := 87) rfl ?_); go_loud (refine app_text rfl (.tmp 79) (.tmp 86) rfl w0.heap.size v2 (ac ++ [6]) (esc tx) A3 (esc tx).length c3 rfl rfl rfl H3.out.1.own H3.out.2 (by simp; omega) H3.out.1.below.size ?_); intro v4 w5 ho4 hb4 _; have H4 := Lib.hid (H3.out.1.step ho4 hb4); clear ho4 hb4))
        go_wp2_with (((with_reducible refine gate_dst (N := 90) rfl ?_); go_loud (refine app_byte rfl (.tmp 88) (.tmp 89) rfl w0.heap.size v4 (ac ++ [6] ++ esc tx) 0 w5.heap.size rfl rfl rfl H4.out.own (by simp; omega) H4.out.below.size ?_); intro v5 w6 ho5 hb5 _; have H5 := Lib.hid (H4.out.step ho5 hb5); clear ho5 hb5))
        go_roundw
        case rel => exact ⟨k + 1, by omega, by go_num, HC.out _ _ _ H5.out (HCC.out _ rfl)⟩
        case measure => simp [intOf]; omega
      have h6b : (kd == 6) = false := by simpa using h6
      have h7 : kd = 7 := by omega
      subst h7
      have y6 : w2.cell? ⟨b, o + k * 7 + 6, none⟩ = some (.slice ph.A ps.length ph.cap) := HCE.out _ H2.out.below 6 _ (by omega) rfl
      have hct : codT ((TT.mk ⟨7, bb, nn, rl, re, im⟩ tx (LT.pures ps)).map VS.ps) = 7 :: (codL (TT.maps VS.ps (LT.pures ps)) ++ [0]) := by simp [codT, TT.map, VS.ps]
      have hps : ac.length + (codL (TT.maps VS.ps (LT.pures ps))).length + 2 ≤ 1099511627776 := by
        have := HTT.out
        rw [hct] at this
        simp at this
        omega
      have HCC := Lib.hid (show ∀ acc3, acc3 = ac ++ [7] ++ codL (TT.maps VS.ps (LT.pures ps)) ++ [0] → acc3 = ac ++ codT ((TT.mk ⟨7, bb, nn, rl, re, im⟩ tx (LT.pures ps)).map VS.ps) from fun acc3 h => by rw [h, hct]; simp)
      have hcall := HREC.out (LT.cnts ps) HX.out.2.2.2.2.1 w0 w2 v2 (ac ++ [7]) ph.A ph.cap (deep + 1) ps (Nat.le_refl _) HX.out.1.parts H2.out.below H2.out.own (HX.out.2.1 rfl).2 HX.out.2.2.1.2 (by simp; omega)
      have HCL := Lib.hid hcall
      clear hct hcall
      generalize codL (TT.maps VS.ps (LT.pures ps)) = cp at *
      go_wp2_with fail
      refine HCL.out.mono ?_
      rintro e w3 ⟨v3, rfl, ho3, hb3⟩
      have H3 := Lib.hid (Sl.mk ho3 hb3)
      clear ho3 hb3 y0 y6
      go_wp2_with (((with_reducible refine gate_dst (N := 100) rfl ?_); go_loud (refine app_byte rfl (.tmp 98) (.tmp 99) rfl w0.heap.size v3 (ac ++ [7] ++ cp) 0 w3.heap.size rfl rfl rfl H3.out.own (by simp; omega) H3.out.below.size ?_); intro v5 w6 ho5 hb5 _; have H5 := Lib.hid (H3.out.step ho5 hb5); clear ho5 hb5))
      go_roundw
      case rel => exact ⟨k + 1, by omega, by go_num, HC.out _ _ _ H5.out (HCC.out _ rfl)⟩
      case measure => simp [intOf]; omega
    · go_wp2
      go_ret
      have hall : (LT.pures ls).take k = LT.pures ls := List.take_of_length_le (by rw [LT.pures_length]; omega)
      have := HW.out
      rw [hall] at this
      exact ⟨_, rfl, this.own, this.below⟩
theorem lay_all (n : Nat) : LayAt n := by
  induction n using Nat.strongRecOn with
  | ind n ih => exact lay_of n ih
end Go.Proofs.YtplfmpcoojkjlaaDoor
