/- The walks of the document's values and rows: which comes first. -/
import Derived.Test.YtplfmpcoojkjlaaK25
import Derived.StillTailTactics
namespace Go.Proofs.Ytplfmpcoojkjlaa
open Go.RowKit Go.Proofs.YtplfmpcoojkjlaaW.PrintWords
def RowsAt (n : Nat) : Prop := ∀ (w : World) (A B : Option Addr) (c d : Nat) (ms qs : List (LT PS)), LT.cnts ms ≤ n → RdL PS.enc w A ms → RdL PS.enc w B qs → TT.alls PS.fit (LT.pures ms) → TT.alls PS.fit (LT.pures qs) →
  Calls Try.prog 21 #[.slice A ms.length c, .slice B qs.length d] w fun e w' => e = .returned (.int .i64 (cmpL (LT.pures ms) (LT.pures qs))) ∧ Below w.heap.size w w'
def ValsAt (n : Nat) : Prop := ∀ (w : World) (m q : LT PS), m.cnt ≤ n → m.Rd PS.enc w → q.Rd PS.enc w → m.pure.all PS.fit → q.pure.all PS.fit →
  Calls Try.prog 34 #[.agg (m.cells PS.enc).toArray, .agg (q.cells PS.enc).toArray] w fun e w' => e = .returned (.int .i64 (cmpT m.pure q.pure)) ∧ Below w.heap.size w w'
set_option maxRecDepth 100000 in
set_option maxHeartbeats 4000000 in
theorem vals_of (n : Nat) (HI : ∀ k, k < n → RowsAt k) : ValsAt n := by
  intro w m q hcnt hm hq hfm hfq
  have hcp : LT.cnts m.parts < n := by
    have h1 := LT.cnt_parts m
    omega
  have HREC := Lib.hid HI
  obtain ⟨⟨kd, bb, nn, re, im⟩, th, tx, ph, ps⟩ := m
  obtain ⟨⟨kd2, bb2, nn2, re2, im2⟩, th2, tx2, ph2, ps2⟩ := q
  simp only [LT.pure, TT.all, PS.fit] at hfm hfq
  have hcm : cmpT (LT.mk (⟨kd, bb, nn, re, im⟩ : PS) th tx ph ps).pure (LT.mk (⟨kd2, bb2, nn2, re2, im2⟩ : PS) th2 tx2 ph2 ps2).pure = if kd ≠ kd2 then sgn kd kd2
    else if kd = 2 then sgn (b2i bb) (b2i bb2)
    else if kd = 3 then sgn nn nn2
    else if kd = 4 then sgn (rankB re) (rankB re2)
    else if kd = 5 then (if sgn (rankB re) (rankB re2) = 0 then sgn (rankB im) (rankB im2) else sgn (rankB re) (rankB re2))
    else if kd = 6 then cmpX tx tx2
    else if kd = 7 then cmpL (LT.pures ps) (LT.pures ps2) else 0 := by
    simp only [LT.pure, cmpT, TT.s, TT.text, TT.parts]
    rfl
  have HX := Lib.hid (show _ ∧ _ ∧ _ ∧ _ ∧ _ ∧ _ from ⟨hm, hq, hcp, hfm, hfq, hcm⟩)
  clear hm hq hcp hfm hfq hcm HI
  show Calls _ _ #[.agg #[.int .i64 kd, .bool bb, .int .i64 nn, .int .u64 re, .int .u64 im, .slice th.A tx.length th.cap, .slice ph.A ps.length ph.cap], .agg #[.int .i64 kd2, .bool bb2, .int .i64 nn2, .int .u64 re2, .int .u64 im2, .slice th2.A tx2.length th2.cap, .slice ph2.A ps2.length ph2.cap]] _ _
  have hbw : ∀ O1 O2, Below w.heap.size w ((w.alloc O1).alloc O2) := fun O1 O2 => ((Below.refl _ _).alloc (Nat.le_refl _) _).alloc (by simp) _
  have HB := Lib.hid hbw
  clear hbw
  by_cases hk : kd = kd2
  case neg =>
    have hkb : (kd != kd2) = true := by simpa using hk
    have HS := Lib.hid (show _ ∧ _ from ⟨fun w => sign_ne w kd kd2 hk, HX.out.2.2.2.2.2.trans (if_pos hk)⟩)
    clear hk
    go_enter Try.func34, Try.ntmps34
    go_wp2_with fail
    refine (HS.out.1 _).mono ?_
    rintro e w' ⟨rfl, rfl⟩
    go_wp2
    go_ret
    exact ⟨by rw [HS.out.2]; rfl, HB.out _ _⟩
  case pos =>
    subst hk
    have HE := Lib.hid (HX.out.2.2.2.2.2.trans (if_neg (fun h => h rfl)))
    have hkb : (kd != kd) = false := by simp
    by_cases h2 : kd = 2
    · subst h2
      have HS := Lib.hid (HE.out.trans (if_pos rfl))
      have HSG := Lib.hid (fun w a b => sign_calls w a b)
      go_enter Try.func34, Try.ntmps34
      cases bb <;> cases bb2
      all_goals
        go_wp2_with fail
        refine (HSG.out _ _ _).mono ?_
        rintro e w' ⟨rfl, rfl⟩
        go_wp2
        go_ret
        exact ⟨by rw [HS.out]; rfl, HB.out _ _⟩
    have h2b : (kd == 2) = false := by simpa using h2
    have HE2 := Lib.hid (HE.out.trans (if_neg h2))
    clear h2
    by_cases h3 : kd = 3
    · subst h3
      have HS := Lib.hid (HE2.out.trans (if_pos rfl))
      have HSG := Lib.hid (fun w => sign_sgn w nn nn2)
      go_enter Try.func34, Try.ntmps34
      go_wp2_with fail
      refine (HSG.out _).mono ?_
      rintro e w' ⟨rfl, rfl⟩
      go_wp2
      go_ret
      exact ⟨by rw [HS.out]; rfl, HB.out _ _⟩
    have h3b : (kd == 3) = false := by simpa using h3
    have HE3 := Lib.hid (HE2.out.trans (if_neg h3))
    clear h3
    by_cases h4 : kd = 4
    · subst h4
      have HS := Lib.hid (HE3.out.trans (if_pos rfl))
      have HSG := Lib.hid (fun w => reals_calls w re re2 HX.out.2.2.2.1.1.1 HX.out.2.2.2.2.1.1.1)
      go_enter Try.func34, Try.ntmps34
      go_wp2_with fail
      refine (HSG.out _).mono ?_
      rintro e w' ⟨rfl, rfl⟩
      go_wp2
      go_ret
      exact ⟨by rw [HS.out]; rfl, HB.out _ _⟩
    have h4b : (kd == 4) = false := by simpa using h4
    have HE4 := Lib.hid (HE3.out.trans (if_neg h4))
    clear h4
    by_cases h5 : kd = 5
    · subst h5
      have HSG := Lib.hid (show _ ∧ _ from ⟨fun w => reals_calls w re re2 HX.out.2.2.2.1.1.1 HX.out.2.2.2.2.1.1.1, fun w => reals_calls w im im2 HX.out.2.2.2.1.1.2.1 HX.out.2.2.2.2.1.1.2.1⟩)
      have HS := Lib.hid (HE4.out.trans (if_pos rfl))
      clear HE HE2 HE3 HE4
      generalize sgn (rankB re) (rankB re2) = r1 at *
      generalize sgn (rankB im) (rankB im2) = r2 at *
      by_cases hr : r1 = 0
      · subst hr
        have HS2 := Lib.hid (HS.out.trans (if_pos rfl))
        go_enter Try.func34, Try.ntmps34
        go_wp2_with fail
        refine (HSG.out.1 _).mono ?_
        rintro e w' ⟨rfl, rfl⟩
        go_wp2_with fail
        refine (HSG.out.2 _).mono ?_
        rintro e w' ⟨rfl, rfl⟩
        go_wp2
        go_ret
        exact ⟨by rw [HS2.out]; rfl, HB.out _ _⟩
      · have HS2 := Lib.hid (HS.out.trans (if_neg hr))
        have hrb : (r1 != 0) = true := by simpa using hr
        clear hr
        go_enter Try.func34, Try.ntmps34
        go_wp2_with fail
        refine (HSG.out.1 _).mono ?_
        rintro e w' ⟨rfl, rfl⟩
        go_wp2
        go_ret
        exact ⟨by rw [HS2.out]; rfl, HB.out _ _⟩
    have h5b : (kd == 5) = false := by simpa using h5
    have HE5 := Lib.hid (HE4.out.trans (if_neg h5))
    clear h5
    by_cases h6 : kd = 6
    · subst h6
      have HS := Lib.hid (HE5.out.trans (if_pos rfl))
      have HSG := Lib.hid (fun w' hb => texts_calls w' th.A th2.A tx tx2 th.cap th2.cap (HX.out.1.textRow.below hb) (HX.out.2.1.textRow.below hb) HX.out.1.textLen HX.out.2.1.textLen)
      go_enter Try.func34, Try.ntmps34
      go_wp2_with fail
      refine (HSG.out _ (HB.out _ _)).mono ?_
      rintro e w' ⟨rfl, ⟨nd, rfl⟩⟩
      go_wp2
      go_ret
      exact ⟨by rw [HS.out]; rfl, pw_below_drewN (HB.out _ _) _⟩
    have h6b : (kd == 6) = false := by simpa using h6
    have HE6 := Lib.hid (HE5.out.trans (if_neg h6))
    clear h6
    by_cases h7 : kd = 7
    · subst h7
      have HS := Lib.hid (HE6.out.trans (if_pos rfl))
      have HSG := Lib.hid (fun w' (hb : Below w.heap.size w w') => HREC.out (LT.cnts ps) HX.out.2.2.1 w' ph.A ph2.A ph.cap ph2.cap ps ps2 (Nat.le_refl _) (HX.out.1.parts.below hb) (HX.out.2.1.parts.below hb) HX.out.2.2.2.1.2 HX.out.2.2.2.2.1.2)
      go_enter Try.func34, Try.ntmps34
      go_wp2_with fail
      refine (HSG.out _ (HB.out _ _)).mono ?_
      rintro e w' ⟨rfl, hb'⟩
      have HB' := Lib.hid hb'
      clear hb'
      go_wp2
      go_ret
      exact ⟨by rw [HS.out]; rfl, (HB.out _ _).trans (HB'.out.mono (HB.out _ _).size)⟩
    have h7b : (kd == 7) = false := by simpa using h7
    have HS := Lib.hid (HE6.out.trans (if_neg h7))
    clear h7
    go_enter Try.func34, Try.ntmps34
    go_wp2
    go_ret
    exact ⟨by rw [HS.out]; rfl, HB.out _ _⟩
set_option maxRecDepth 100000 in
set_option maxHeartbeats 4000000 in
theorem rows_of (n : Nat) (HV : ValsAt n) : RowsAt n := by
  intro w A B c d ms qs hcnt hA hB hfm hfq
  have hml : ms.length ≤ 9223372036854775807 := hA.len
  have hql : qs.length ≤ 9223372036854775807 := hB.len
  have H0 := Lib.hid (show _ ∧ _ ∧ _ ∧ _ ∧ _ from ⟨hA, hB, hfm, hfq, hcnt⟩)
  have HREC := Lib.hid HV
  clear hA hB hfm hfq HV
  have HSG := Lib.hid (fun w => sign_len w ms.length qs.length)
  go_enter Try.func21, Try.ntmps21
  go_wp2
  go_loopw [5] (fun vi wr => ∃ k : Nat, k ≤ ms.length ∧ k ≤ qs.length ∧ vi = .int .i64 k ∧ Below w.heap.size w wr ∧ cmpL (LT.pures ms) (LT.pures qs) = cmpL ((LT.pures ms).drop k) ((LT.pures qs).drop k)) (fun vi _ => ms.length - (intOf vi).toNat)
  case atStart => exact ⟨0, by omega, by omega, rfl, Below.refl _ _, rfl⟩
  case round =>
    obtain ⟨k, hk, hk2, rfl, hbw, htk⟩ := hrel
    have HBW := Lib.hid hbw
    have HT := Lib.hid htk
    clear hbw htk
    by_cases hlt : k < ms.length
    · by_cases hlt2 : k < qs.length
      · obtain ⟨b, o, rfl, hblt, hcs, hrd⟩ := (H0.out.1.below HBW.out).get PS.enc5 k hlt
        obtain ⟨b2, o2, rfl, hblt2, hcs2, hrd2⟩ := (H0.out.2.1.below HBW.out).get PS.enc5 k hlt2
        have hd1 : (LT.pures ms).drop k = (ms[k]).pure :: (LT.pures ms).drop (k + 1) := by
          rw [drop_cons (show k < (LT.pures ms).length by rw [LT.pures_length]; exact hlt)]
          congr 1
          simp [LT.pures_map]
        have hd2 : (LT.pures qs).drop k = (qs[k]).pure :: (LT.pures qs).drop (k + 1) := by
          rw [drop_cons (show k < (LT.pures qs).length by rw [LT.pures_length]; exact hlt2)]
          congr 1
          simp [LT.pures_map]
        have hstep : cmpL (LT.pures ms) (LT.pures qs) = if cmpT (ms[k]).pure (qs[k]).pure = 0 then cmpL ((LT.pures ms).drop (k + 1)) ((LT.pures qs).drop (k + 1)) else cmpT (ms[k]).pure (qs[k]).pure := by
          rw [HT.out, hd1, hd2, cmpL]
        have hfm : (ms[k]).pure.all PS.fit := TT.alls_mem H0.out.2.2.1 (by rw [LT.pures_map]; exact List.mem_map_of_mem (List.getElem_mem hlt))
        have hfq : (qs[k]).pure.all PS.fit := TT.alls_mem H0.out.2.2.2.1 (by rw [LT.pures_map]; exact List.mem_map_of_mem (List.getElem_mem hlt2))
        have hcn : (ms[k]).cnt ≤ n := by
          have h2 := LT.cnt_mem (List.getElem_mem hlt)
          omega
        generalize ms[k] = m at *
        generalize qs[k] = q at *
        have hcall := fun w' (hb : Below wr.heap.size wr w') => HREC.out w' m q hcn (hrd.keep hb) (hrd2.keep hb) hfm hfq
        generalize cmpT m.pure q.pure = r at *
        obtain ⟨⟨kd, bb, nn, re, im⟩, th, tx, ph, ps⟩ := m
        obtain ⟨⟨kd2, bb2, nn2, re2, im2⟩, th2, tx2, ph2, ps2⟩ := q
        have A0 : wr.cell? ⟨b, o + k * 7, none⟩ = some (.int .i64 kd) := rd_cell7 0 hcs (by omega) rfl
        have A1 : wr.cell? ⟨b, o + k * 7 + 1, none⟩ = some (.bool bb) := rd_cell7 1 hcs (by omega) rfl
        have A2 : wr.cell? ⟨b, o + k * 7 + 2, none⟩ = some (.int .i64 nn) := rd_cell7 2 hcs (by omega) rfl
        have A3 : wr.cell? ⟨b, o + k * 7 + 3, none⟩ = some (.int .u64 re) := rd_cell7 3 hcs (by omega) rfl
        have A4 : wr.cell? ⟨b, o + k * 7 + 4, none⟩ = some (.int .u64 im) := rd_cell7 4 hcs (by omega) rfl
        have A5 : wr.cell? ⟨b, o + k * 7 + 5, none⟩ = some (.slice th.A tx.length th.cap) := rd_cell7 5 hcs (by omega) rfl
        have A6 : wr.cell? ⟨b, o + k * 7 + 6, none⟩ = some (.slice ph.A ps.length ph.cap) := rd_cell7 6 hcs (by omega) rfl
        have B0 : wr.cell? ⟨b2, o2 + k * 7, none⟩ = some (.int .i64 kd2) := rd_cell7 0 hcs2 (by omega) rfl
        have B1 : wr.cell? ⟨b2, o2 + k * 7 + 1, none⟩ = some (.bool bb2) := rd_cell7 1 hcs2 (by omega) rfl
        have B2 : wr.cell? ⟨b2, o2 + k * 7 + 2, none⟩ = some (.int .i64 nn2) := rd_cell7 2 hcs2 (by omega) rfl
        have B3 : wr.cell? ⟨b2, o2 + k * 7 + 3, none⟩ = some (.int .u64 re2) := rd_cell7 3 hcs2 (by omega) rfl
        have B4 : wr.cell? ⟨b2, o2 + k * 7 + 4, none⟩ = some (.int .u64 im2) := rd_cell7 4 hcs2 (by omega) rfl
        have B5 : wr.cell? ⟨b2, o2 + k * 7 + 5, none⟩ = some (.slice th2.A tx2.length th2.cap) := rd_cell7 5 hcs2 (by omega) rfl
        have B6 : wr.cell? ⟨b2, o2 + k * 7 + 6, none⟩ = some (.slice ph2.A ps2.length ph2.cap) := rd_cell7 6 hcs2 (by omega) rfl
        have HC := Lib.hid (show _ ∧ _ from ⟨hcall, hstep⟩)
        clear hcs hcs2 hrd hrd2 hd1 hd2 hfm hfq hcn hcall hstep
        go_upto_region 4 with (fail)
        go_still_tail 8, (by kernel_rfl)
        change wpList _ _ _ _ _ wr.drew
        go_wp2_with fail
        refine (HC.out.1 _ (Below.refl _ _).drew).mono ?_
        rintro e w2 ⟨rfl, hb2⟩
        have HB2 := Lib.hid (show Below wr.heap.size wr w2 from ((Below.refl wr.heap.size wr).drew).trans hb2)
        clear hb2 A0 A1 A2 A3 A4 A5 A6 B0 B1 B2 B3 B4 B5 B6
        by_cases hr : r = 0
        · have HE := Lib.hid (HC.out.2.trans (if_pos hr))
          subst hr
          go_wp2
          go_roundw
          case rel => exact ⟨k + 1, by omega, by omega, by go_num, HBW.out.trans (HB2.out.mono HBW.out.size), HE.out⟩
          case measure => simp [intOf]; omega
        · have HE := Lib.hid (HC.out.2.trans (if_neg hr))
          have hrb : (r != 0) = true := by simpa using hr
          clear hr
          go_wp2
          go_ret
          exact ⟨by rw [HE.out]; rfl, HBW.out.trans (HB2.out.mono HBW.out.size)⟩
      · go_wp2_with fail
        refine (HSG.out _).mono ?_
        rintro e w' ⟨rfl, rfl⟩
        go_wp2
        go_ret
        have hx : cmpL (LT.pures ms) (LT.pures qs) = sgn (ms.length : Int) (qs.length : Int) := by
          rw [HT.out, cmpL_nil _ _ (Or.inr (List.drop_eq_nil_of_le (by rw [LT.pures_length]; omega))), List.length_drop, List.length_drop, LT.pures_length, LT.pures_length]
          unfold sgn
          split <;> split <;> (try split) <;> (try split) <;> omega
        exact ⟨by rw [hx]; rfl, HBW.out⟩
    · go_wp2_with fail
      refine (HSG.out _).mono ?_
      rintro e w' ⟨rfl, rfl⟩
      go_wp2
      go_ret
      have hx : cmpL (LT.pures ms) (LT.pures qs) = sgn (ms.length : Int) (qs.length : Int) := by
        rw [HT.out, cmpL_nil _ _ (Or.inl (List.drop_eq_nil_of_le (by rw [LT.pures_length]; omega))), List.length_drop, List.length_drop, LT.pures_length, LT.pures_length]
        unfold sgn
        split <;> split <;> (try split) <;> (try split) <;> omega
      exact ⟨by rw [hx]; rfl, HBW.out⟩
theorem rows_all (n : Nat) : RowsAt n := by
  induction n using Nat.strongRecOn with
  | ind n ih => exact rows_of n (vals_of n ih)
end Go.Proofs.Ytplfmpcoojkjlaa
