/- The walk of the program's values. -/
import Derived.Test.YtplfmpcoojkjlaaDoorK28
import Derived.Test.YtplfmpcoojkjlaaDoorK41
import Derived.StillTailTactics
namespace Go.Proofs.YtplfmpcoojkjlaaDoor
open Go.RowKit Go.Proofs.YtplfmpcoojkjlaaDoorW.PrintWords
theorem quiet_onP {P : Program} {f : FuncId} {args : Array Value} {w : World} {a n : Nat} {v : Value} (h : Calls P f args (w.drewN (a + n)) fun e w' => e = .returned v ∧ w' = w.drewN (a + n)) : Calls P f args (w.drewN (a + n)) fun e w'' => e = .returned v ∧ ∃ m, w'' = w.drewN (a + m) :=
  h.mono fun _ _ k => ⟨k.1, n, k.2⟩
/-- A node's seven cells stand from ⟨b, o⟩ on. -/
def NodeAt (w : World) (b o : Nat) (l : LT VS) : Prop := b < w.heap.size ∧ (∀ j u, j < 7 → (l.cells VS.enc)[j]? = some u → w.cell? ⟨b, o + j, none⟩ = some u) ∧ l.Rd VS.enc w
theorem NodeAt.below {w w' : World} {b o : Nat} {l : LT VS} (h : NodeAt w b o l) (hb : Below w.heap.size w w') : NodeAt w' b o l :=
  ⟨Nat.lt_of_lt_of_le h.1 hb.size, fun j u hj hu => (hb.cell (p := ⟨b, o + j, none⟩) h.1).trans (h.2.1 j u hj hu), h.2.2.keep hb⟩
def PRowsAt (n : Nat) : Prop := ∀ (w : World) (A B : Option Addr) (c d : Nat) (ls ts : List (LT VS)), LT.cnts ls ≤ n → RdL VS.enc w A ls → RdL VS.enc w B ts → TT.alls VS.fit (LT.pures ls) → TT.alls VS.fit (LT.pures ts) →
  Calls Tryd.prog 41 #[.slice A ls.length c, .slice B ts.length d] w fun e w' => e = .returned (.int .i64 (cmpL (TT.maps VS.ps (LT.pures ls)) (TT.maps VS.ps (LT.pures ts)))) ∧ Below w.heap.size w w'
def PValsAt (n : Nat) : Prop := ∀ (w : World) (b o b2 o2 : Nat) (l t : LT VS), l.cnt ≤ n → NodeAt w b o l → NodeAt w b2 o2 t → l.pure.all VS.fit → t.pure.all VS.fit →
  Calls Tryd.prog 49 #[.pointer (some ⟨b, o, none⟩), .pointer (some ⟨b2, o2, none⟩)] w fun e w' => e = .returned (.int .i64 (cmpT (l.pure.map VS.ps) (t.pure.map VS.ps))) ∧ Below w.heap.size w w'
set_option maxRecDepth 100000 in
set_option maxHeartbeats 4000000 in
theorem pvals_of (n : Nat) (HI : ∀ k, k < n → PRowsAt k) : PValsAt n := by
  intro w b o b2 o2 l t hcnt hl ht hfp hfq
  have hcp : LT.cnts l.parts < n := by
    have h1 := LT.cnt_parts l
    omega
  have HREC := Lib.hid HI
  obtain ⟨⟨kd, bb, nn, rl, re, im⟩, th, tx, ph, ls⟩ := l
  obtain ⟨⟨kd2, bb2, nn2, rl2, re2, im2⟩, th2, tx2, ph2, ts⟩ := t
  have A0 : w.cell? ⟨b, o, none⟩ = some (.int .i64 kd) := hl.2.1 0 _ (by omega) rfl
  have A1 : w.cell? ⟨b, o + 1, none⟩ = some (.bool bb) := hl.2.1 1 _ (by omega) rfl
  have A2 : w.cell? ⟨b, o + 2, none⟩ = some (.int .i64 nn) := hl.2.1 2 _ (by omega) rfl
  have A3 : w.cell? ⟨b, o + 3, none⟩ = some (.float .f64 rl) := hl.2.1 3 _ (by omega) rfl
  have A4 : w.cell? ⟨b, o + 4, none⟩ = some (.complex .f64 re im) := hl.2.1 4 _ (by omega) rfl
  have A5 : w.cell? ⟨b, o + 5, none⟩ = some (.slice th.A tx.length th.cap) := hl.2.1 5 _ (by omega) rfl
  have A6 : w.cell? ⟨b, o + 6, none⟩ = some (.slice ph.A ls.length ph.cap) := hl.2.1 6 _ (by omega) rfl
  have B0 : w.cell? ⟨b2, o2, none⟩ = some (.int .i64 kd2) := ht.2.1 0 _ (by omega) rfl
  have B1 : w.cell? ⟨b2, o2 + 1, none⟩ = some (.bool bb2) := ht.2.1 1 _ (by omega) rfl
  have B2 : w.cell? ⟨b2, o2 + 2, none⟩ = some (.int .i64 nn2) := ht.2.1 2 _ (by omega) rfl
  have B3 : w.cell? ⟨b2, o2 + 3, none⟩ = some (.float .f64 rl2) := ht.2.1 3 _ (by omega) rfl
  have B4 : w.cell? ⟨b2, o2 + 4, none⟩ = some (.complex .f64 re2 im2) := ht.2.1 4 _ (by omega) rfl
  have B5 : w.cell? ⟨b2, o2 + 5, none⟩ = some (.slice th2.A tx2.length th2.cap) := ht.2.1 5 _ (by omega) rfl
  have B6 : w.cell? ⟨b2, o2 + 6, none⟩ = some (.slice ph2.A ts.length ph2.cap) := ht.2.1 6 _ (by omega) rfl
  simp only [LT.pure, TT.all, VS.fit] at hfp hfq
  have hcm : cmpT ((LT.mk (⟨kd, bb, nn, rl, re, im⟩ : VS) th tx ph ls).pure.map VS.ps) ((LT.mk (⟨kd2, bb2, nn2, rl2, re2, im2⟩ : VS) th2 tx2 ph2 ts).pure.map VS.ps) = if kd ≠ kd2 then sgn kd kd2
    else if kd = 2 then sgn (b2i bb) (b2i bb2)
    else if kd = 3 then sgn nn nn2
    else if kd = 4 then sgn (rankB rl) (rankB rl2)
    else if kd = 5 then (if sgn (rankB re) (rankB re2) = 0 then sgn (rankB im) (rankB im2) else sgn (rankB re) (rankB re2))
    else if kd = 6 then cmpX tx tx2
    else if kd = 7 then cmpL (TT.maps VS.ps (LT.pures ls)) (TT.maps VS.ps (LT.pures ts)) else 0 := by
    simp only [LT.pure, TT.map, VS.ps, cmpT, TT.s, TT.text, TT.parts]
    by_cases hk : kd = kd2
    · subst hk
      by_cases h4 : kd = 4
      · subst h4; rfl
      · simp only [ne_eq, not_true_eq_false, if_false, if_neg h4]
    · simp only [ne_eq, hk, not_false_eq_true, if_true]
  have hb1 := hl.1
  have hb2 := ht.1
  have HX := Lib.hid (show _ ∧ _ ∧ _ ∧ _ ∧ _ ∧ _ from ⟨hl.2.2, ht.2.2, hcp, hfp, hfq, hcm⟩)
  clear hl ht hcp hfp hfq hcm HI hcnt
  by_cases hk : kd = kd2
  case neg =>
    have HS := Lib.hid (show _ ∧ _ from ⟨fun w => cmpI_calls w kd kd2, HX.out.2.2.2.2.2.trans (if_pos hk)⟩)
    have hne : sgn kd kd2 ≠ 0 := fun h => hk ((sgn_zero _ _).1 h)
    generalize sgn kd kd2 = r at *
    have hrb : (r != 0) = true := by simpa using hne
    clear hk hne
    go_enter Tryd.func49, Tryd.ntmps49
    go_wp2_with fail
    go_quiet ((go_at_call 50; exact Calls.quiet_of_same (HS.out.1 _)))
    go_wp2
    go_ret
    exact ⟨by rw [HS.out.2]; rfl, pw_below_drewN (Below.refl _ _) _⟩
  case pos =>
    subst hk
    have HE := Lib.hid (HX.out.2.2.2.2.2.trans (if_neg (fun h => h rfl)))
    have HI0 := Lib.hid (fun w => (show Calls Tryd.prog 50 #[.int .i64 kd, .int .i64 kd] w fun e w' => e = .returned (.int .i64 0) ∧ w' = w from by
      have := cmpI_calls w kd kd
      rwa [(sgn_zero kd kd).2 rfl] at this))
    by_cases h2 : kd = 2
    · subst h2
      have HS := Lib.hid (HE.out.trans (if_pos rfl))
      cases bb <;> cases bb2
      all_goals
        go_enter Tryd.func49, Tryd.ntmps49
        go_wp2_with fail
        go_quiet ((go_at_call 50; exact Calls.quiet_of_same (HI0.out _)))
        go_wp2
        go_ret
        exact ⟨by rw [HS.out]; rfl, pw_below_drewN (Below.refl _ _) _⟩
    have h2b : (kd == 2) = false := by simpa using h2
    have HE2 := Lib.hid (HE.out.trans (if_neg h2))
    clear h2
    by_cases h3 : kd = 3
    · subst h3
      have HS := Lib.hid (HE2.out.trans (if_pos rfl))
      have HSG := Lib.hid (fun w => cmpL_calls w nn nn2)
      go_enter Tryd.func49, Tryd.ntmps49
      go_wp2_with fail
      go_quiet ((go_at_call 50; exact Calls.quiet_of_same (HI0.out _)))
      go_wp2_with fail
      go_quiet ((go_at_call 57; exact quiet_onP (HSG.out _)))
      go_wp2
      go_ret
      exact ⟨by rw [HS.out]; rfl, pw_below_drewN (pw_below_drewN (Below.refl _ _) _) _⟩
    have h3b : (kd == 3) = false := by simpa using h3
    have HE3 := Lib.hid (HE2.out.trans (if_neg h3))
    clear h3
    by_cases h4 : kd = 4
    · subst h4
      have HS := Lib.hid (HE3.out.trans (if_pos rfl))
      have HSG := Lib.hid (show _ ∧ _ ∧ _ from ⟨fun w => rank_calls w rl HX.out.2.2.2.1.1.1, fun w => rank_calls w rl2 HX.out.2.2.2.2.1.1.1, fun w => cmpU_calls w (rankB rl) (rankB rl2)⟩)
      clear HE HE2 HE3 HX
      generalize rankB rl = x1 at *
      generalize rankB rl2 = x2 at *
      go_enter Tryd.func49, Tryd.ntmps49
      go_wp2_with fail
      go_quiet ((go_at_call 50; exact Calls.quiet_of_same (HI0.out _)))
      go_wp2_with fail
      go_quiet (first | (go_at_call 47; with_reducible first | exact quiet_onP (HSG.out.1 _) | exact quiet_onP (HSG.out.2.1 _)) | (go_at_call 58; exact quiet_onP (HSG.out.2.2 _)))
      go_wp2
      go_ret
      exact ⟨by rw [HS.out]; rfl, pw_below_drewN (pw_below_drewN (Below.refl _ _) _) _⟩
    have h4b : (kd == 4) = false := by simpa using h4
    have HE4 := Lib.hid (HE3.out.trans (if_neg h4))
    clear h4
    by_cases h5 : kd = 5
    · subst h5
      have HSG := Lib.hid (show _ ∧ _ ∧ _ from ⟨fun w => rank_calls w re HX.out.2.2.2.1.1.2.1, fun w => rank_calls w re2 HX.out.2.2.2.2.1.1.2.1, fun w => cmpU_calls w (rankB re) (rankB re2)⟩)
      have HSI := Lib.hid (show _ ∧ _ ∧ _ from ⟨fun w => rank_calls w im HX.out.2.2.2.1.1.2.2.1, fun w => rank_calls w im2 HX.out.2.2.2.2.1.1.2.2.1, fun w => cmpU_calls w (rankB im) (rankB im2)⟩)
      have HS := Lib.hid (HE4.out.trans (if_pos rfl))
      clear HE HE2 HE3 HE4 HX
      generalize rankB re = x1 at *
      generalize rankB re2 = x2 at *
      generalize rankB im = y1 at *
      generalize rankB im2 = y2 at *
      go_enter Tryd.func49, Tryd.ntmps49
      go_wp2_with fail
      go_quiet ((go_at_call 50; exact Calls.quiet_of_same (HI0.out _)))
      go_wp2_with fail
      go_quiet (first | (go_at_call 47; with_reducible first | exact quiet_onP (HSG.out.1 _) | exact quiet_onP (HSG.out.2.1 _)) | (go_at_call 58; exact quiet_onP (HSG.out.2.2 _)))
      go_wp2_with fail
      go_quiet (first | (go_at_call 47; with_reducible first | exact quiet_onP (HSI.out.1 _) | exact quiet_onP (HSI.out.2.1 _)) | (go_at_call 58; exact quiet_onP (HSI.out.2.2 _)))
      go_wp2_with fail
      refine (or_calls _ w.heap.size (sgn x1 x2) (sgn y1 y2) ((blk_cell (blk_new (w.drewN _) _) 0).trans rfl) ((blk_cell (blk_new (w.drewN _) _) 1).trans rfl)).mono ?_
      rintro e w' ⟨rfl, rfl⟩
      generalize (if sgn (x1 : Int) (x2 : Int) = 0 then sgn (y1 : Int) (y2 : Int) else sgn (x1 : Int) (x2 : Int)) = r at *
      go_wp2
      go_ret
      exact ⟨by rw [HS.out]; rfl, (pw_below_drewN (Below.refl _ _) _).alloc (by simp) _⟩
    have h5b : (kd == 5) = false := by simpa using h5
    have HE5 := Lib.hid (HE4.out.trans (if_neg h5))
    clear h5
    by_cases h6 : kd = 6
    · subst h6
      have HS := Lib.hid (HE5.out.trans (if_pos rfl))
      have HSG := Lib.hid (fun w' (hb : Below w.heap.size w w') => cmpB_calls w' th.A th2.A tx tx2 th.cap th2.cap (HX.out.1.textRow.below hb) (HX.out.2.1.textRow.below hb) HX.out.2.2.2.1.1.2.2.2.1 HX.out.2.2.2.2.1.1.2.2.2.1)
      go_enter Tryd.func49, Tryd.ntmps49
      go_wp2_with fail
      go_quiet ((go_at_call 50; exact Calls.quiet_of_same (HI0.out _)))
      go_wp2_with fail
      go_quiet ((go_at_call 60; exact quiet_onP (HSG.out _ (pw_below_drewN (Below.refl _ _) _))))
      go_wp2
      go_ret
      exact ⟨by rw [HS.out]; rfl, pw_below_drewN (pw_below_drewN (Below.refl _ _) _) _⟩
    have h6b : (kd == 6) = false := by simpa using h6
    have HE6 := Lib.hid (HE5.out.trans (if_neg h6))
    clear h6
    by_cases h7 : kd = 7
    · subst h7
      have HS := Lib.hid (HE6.out.trans (if_pos rfl))
      have HSG := Lib.hid (fun w' (hb : Below w.heap.size w w') => HREC.out (LT.cnts ls) HX.out.2.2.1 w' ph.A ph2.A ph.cap ph2.cap ls ts (Nat.le_refl _) (HX.out.1.parts.below hb) (HX.out.2.1.parts.below hb) HX.out.2.2.2.1.2 HX.out.2.2.2.2.1.2)
      go_enter Tryd.func49, Tryd.ntmps49
      go_wp2_with fail
      go_quiet ((go_at_call 50; exact Calls.quiet_of_same (HI0.out _)))
      go_wp2_with fail
      generalize hw2 : World.drewN w _ = w2
      have hB2 : Below w.heap.size w w2 := hw2 ▸ pw_below_drewN (Below.refl _ _) _
      have C6 : w2.cell? ⟨b, o + 6, none⟩ = some (.slice ph.A ls.length ph.cap) := (hB2.cell (p := ⟨b, o + 6, none⟩) hb1).trans A6
      have D6 : w2.cell? ⟨b2, o2 + 6, none⟩ = some (.slice ph2.A ts.length ph2.cap) := (hB2.cell (p := ⟨b2, o2 + 6, none⟩) hb2).trans B6
      clear A0 A1 A2 A3 A4 A5 A6 B0 B1 B2 B3 B4 B5 B6
      have HB2 := Lib.hid hB2
      have HW2 := Lib.hid hw2
      clear hB2 hw2
      go_still_tail 8, (by kernel_rfl)
      change wpList _ _ _ _ _ w2.drew
      go_wp2_with fail
      refine (HSG.out _ HB2.out.drew).mono ?_
      rintro e w' ⟨rfl, hb'⟩
      have HB' := Lib.hid hb'
      clear hb'
      go_wp2
      go_ret
      exact ⟨by rw [HS.out]; rfl, HB2.out.drew.trans (HB'.out.mono HB2.out.drew.size)⟩
    have h7b : (kd == 7) = false := by simpa using h7
    have HS := Lib.hid (HE6.out.trans (if_neg h7))
    clear h7
    go_enter Tryd.func49, Tryd.ntmps49
    go_wp2_with fail
    go_quiet ((go_at_call 50; exact Calls.quiet_of_same (HI0.out _)))
    go_wp2
    go_ret
    exact ⟨by rw [HS.out]; rfl, pw_below_drewN (Below.refl _ _) _⟩
set_option maxRecDepth 100000 in
set_option maxHeartbeats 4000000 in
theorem prows_of (n : Nat) (HV : PValsAt n) : PRowsAt n := by
  intro w A B c d ls ts hcnt hA hB hfm hfq
  have hml : ls.length ≤ 9223372036854775807 := hA.len
  have hql : ts.length ≤ 9223372036854775807 := hB.len
  have H0 := Lib.hid (show _ ∧ _ ∧ _ ∧ _ ∧ _ from ⟨hA, hB, hfm, hfq, hcnt⟩)
  have HREC := Lib.hid HV
  clear hA hB hfm hfq HV
  have HSG := Lib.hid (fun w => cmpI_calls w ls.length ts.length)
  go_enter Tryd.func41, Tryd.ntmps41
  go_wp2
  generalize hmn : min (ls.length : Int) (ts.length : Int) = mn
  have hm0 : 0 ≤ mn := by omega
  have hm1 : mn ≤ ls.length := by omega
  have hm2 : mn ≤ ts.length := by omega
  have HMN := Lib.hid hmn
  clear hmn
  go_loopw [12] (fun vi wr => ∃ k : Nat, (k : Int) ≤ mn ∧ vi = .int .i64 k ∧ Below w.heap.size w wr ∧ cmpL (TT.maps VS.ps (LT.pures ls)) (TT.maps VS.ps (LT.pures ts)) = cmpL ((TT.maps VS.ps (LT.pures ls)).drop k) ((TT.maps VS.ps (LT.pures ts)).drop k)) (fun vi _ => (mn - intOf vi).toNat)
  case atStart => exact ⟨0, by omega, rfl, Below.refl _ _, rfl⟩
  case round =>
    obtain ⟨k, hk, rfl, hbw, htk⟩ := hrel
    have HBW := Lib.hid hbw
    have HT := Lib.hid htk
    clear hbw htk
    by_cases hlt : (k : Int) < mn
    · have hlt1 : k < ls.length := by omega
      have hlt2 : k < ts.length := by omega
      obtain ⟨b, o, rfl, hblt, hcs, hrd⟩ := (H0.out.1.below HBW.out).get VS.enc5 k hlt1
      obtain ⟨b2, o2, rfl, hblt2, hcs2, hrd2⟩ := (H0.out.2.1.below HBW.out).get VS.enc5 k hlt2
      have hd1 : (TT.maps VS.ps (LT.pures ls)).drop k = (ls[k]).pure.map VS.ps :: (TT.maps VS.ps (LT.pures ls)).drop (k + 1) := by
        rw [drop_cons (show k < (TT.maps VS.ps (LT.pures ls)).length by rw [TT.maps_length, LT.pures_length]; exact hlt1)]
        congr 1
        simp [LT.pures_map, TT.maps_map]
      have hd2 : (TT.maps VS.ps (LT.pures ts)).drop k = (ts[k]).pure.map VS.ps :: (TT.maps VS.ps (LT.pures ts)).drop (k + 1) := by
        rw [drop_cons (show k < (TT.maps VS.ps (LT.pures ts)).length by rw [TT.maps_length, LT.pures_length]; exact hlt2)]
        congr 1
        simp [LT.pures_map, TT.maps_map]
      have hstep : cmpL (TT.maps VS.ps (LT.pures ls)) (TT.maps VS.ps (LT.pures ts)) = if cmpT ((ls[k]).pure.map VS.ps) ((ts[k]).pure.map VS.ps) = 0 then cmpL ((TT.maps VS.ps (LT.pures ls)).drop (k + 1)) ((TT.maps VS.ps (LT.pures ts)).drop (k + 1)) else cmpT ((ls[k]).pure.map VS.ps) ((ts[k]).pure.map VS.ps) := by
        rw [HT.out, hd1, hd2, cmpL]
      have hfm : (ls[k]).pure.all VS.fit := TT.alls_mem H0.out.2.2.1 (by rw [LT.pures_map]; exact List.mem_map_of_mem (List.getElem_mem hlt1))
      have hfq : (ts[k]).pure.all VS.fit := TT.alls_mem H0.out.2.2.2.1 (by rw [LT.pures_map]; exact List.mem_map_of_mem (List.getElem_mem hlt2))
      have hcn : (ls[k]).cnt ≤ n := by
        have h2 := LT.cnt_mem (List.getElem_mem hlt1)
        omega
      have hna : NodeAt wr b (o + k * 7) ls[k] := ⟨hblt, fun j u hj hu => by rw [Nat.add_assoc]; exact hcs j u hj hu, hrd⟩
      have hnb : NodeAt wr b2 (o2 + k * 7) ts[k] := ⟨hblt2, fun j u hj hu => by rw [Nat.add_assoc]; exact hcs2 j u hj hu, hrd2⟩
      generalize ls[k] = m at *
      generalize ts[k] = q at *
      have hcall := fun w' (hb : Below wr.heap.size wr w') => HREC.out w' b (o + k * 7) b2 (o2 + k * 7) m q hcn (hna.below hb) (hnb.below hb) hfm hfq
      generalize cmpT (m.pure.map VS.ps) (q.pure.map VS.ps) = r at *
      have HC := Lib.hid (show _ ∧ _ from ⟨hcall, hstep⟩)
      clear hcs hcs2 hrd hrd2 hd1 hd2 hfm hfq hcn hcall hstep hna hnb
      go_upto_region 4 with (fail)
      go_still_tail 6, (by kernel_rfl)
      change wpList _ _ _ _ _ wr.drew
      go_wp2_with fail
      refine (HC.out.1 _ (Below.refl _ _).drew).mono ?_
      rintro e w2 ⟨rfl, hb2⟩
      have HB2 := Lib.hid (show Below wr.heap.size wr w2 from ((Below.refl wr.heap.size wr).drew).trans hb2)
      clear hb2
      by_cases hr : r = 0
      · have HE := Lib.hid (HC.out.2.trans (if_pos hr))
        subst hr
        go_wp2
        go_roundw
        case rel => exact ⟨k + 1, by omega, by go_num, HBW.out.trans (HB2.out.mono HBW.out.size), HE.out⟩
        case measure => simp [intOf]; omega
      · have HE := Lib.hid (HC.out.2.trans (if_neg hr))
        have hrb : (r != 0) = true := by simpa using hr
        clear hr
        go_wp2
        go_ret
        exact ⟨by rw [HE.out]; rfl, HBW.out.trans (HB2.out.mono HBW.out.size)⟩
    · go_wp2_with fail
      refine (HSG.out _).mono ?_
      rintro e w' ⟨rfl, rfl⟩
      go_wp2
      go_ret
      have hx : cmpL (TT.maps VS.ps (LT.pures ls)) (TT.maps VS.ps (LT.pures ts)) = sgn (ls.length : Int) (ts.length : Int) := by
        have hmn := HMN.out
        have l1 : (TT.maps VS.ps (LT.pures ls)).length = ls.length := by rw [TT.maps_length, LT.pures_length]
        have l2 : (TT.maps VS.ps (LT.pures ts)).length = ts.length := by rw [TT.maps_length, LT.pures_length]
        have hor : (TT.maps VS.ps (LT.pures ls)).drop k = [] ∨ (TT.maps VS.ps (LT.pures ts)).drop k = [] := by
          by_cases hc : ls.length ≤ k
          · exact .inl (List.drop_eq_nil_of_le (by omega))
          · exact .inr (List.drop_eq_nil_of_le (by omega))
        rw [HT.out, cmpL_nil _ _ hor, List.length_drop, List.length_drop, l1, l2]
        unfold sgn
        split <;> split <;> (try split) <;> (try split) <;> omega
      exact ⟨by rw [hx]; rfl, HBW.out⟩
theorem prows_all (n : Nat) : PRowsAt n := by
  induction n using Nat.strongRecOn with
  | ind n ih => exact prows_of n (pvals_of n ih)
end Go.Proofs.YtplfmpcoojkjlaaDoor
