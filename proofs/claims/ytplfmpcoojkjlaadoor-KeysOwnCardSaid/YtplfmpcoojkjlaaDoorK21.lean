/- The walk of kept: is what was lent as it was. -/
import Derived.Test.YtplfmpcoojkjlaaDoorK20
import Derived.Test.YtplfmpcoojkjlaaDoorK30
import Derived.Deep.DeepCutAuto
import Derived.BigQuiet
import Derived.Deep.QuietTactic
namespace Go.Proofs.YtplfmpcoojkjlaaDoor
open Go.RowKit Go.Proofs.YtplfmpcoojkjlaaDoorW.PrintWords
theorem blk_two (w : World) (A B : Obj) : ((w.alloc A).alloc B).heap[w.heap.size + 1]? = some B := by
  have h : (w.alloc A).heap.size = w.heap.size + 1 := by simp
  rw [← h]
  exact blk_new _ _
theorem blk_thr (w : World) (A B C : Obj) : (((w.alloc A).alloc B).alloc C).heap[w.heap.size + 2]? = some C := by
  have h : ((w.alloc A).alloc B).heap.size = w.heap.size + 2 := by simp
  rw [← h]
  exact blk_new _ _
theorem cell_three (w : World) (O1 O2 O3 : Obj) {b : Nat} (h : b < w.heap.size) (x : Nat) : (((w.alloc O1).alloc O2).alloc O3).cell? ⟨b, x, none⟩ = w.cell? ⟨b, x, none⟩ :=
  ((((Below.refl w.heap.size w).alloc (Nat.le_refl _) O1).alloc (by simp) O2).alloc (by simp; omega) O3).cell (p := ⟨b, x, none⟩) h
def KeptAt (n : Nat) : Prop := ∀ (w : World) (h : Hdr) (B C : Option Addr) (d c : Nat) (ls ts : List (LT VS)) (ms : List (LT PS)), LT.cnts ms ≤ n → RdL VS.enc w h.A ls → MkdL w h ls → RdL VS.enc w B ts → (∀ p ∈ ts, LT.Txd w p) → RdL PS.enc w C ms → TT.wts (LT.pures ms) ≤ 1048576 →
  LT.pures ls = TT.maps PS.all (LT.pures ms) → LT.pures ts = LT.pures ls →
  Calls Tryd.prog 17 #[.slice h.A ls.length h.cap, .slice B ts.length d, .slice C ms.length c] w fun e w' => e = .returned (.bool true) ∧ Below w.heap.size w w'
set_option maxRecDepth 100000 in
set_option maxHeartbeats 4000000 in
theorem kept_of (n : Nat) (HI : ∀ m, m < n → KeptAt m) : KeptAt n := by
  intro w h B C d c ls ts ms hcnt hA hM hB hT hC hwt hpl hpt
  have hll : ls.length = ms.length := by
    have := congrArg List.length hpl
    rwa [LT.pures_length, TT.maps_length, LT.pures_length] at this
  have hlt' : ts.length = ms.length := by
    have := congrArg List.length hpt
    rw [LT.pures_length, LT.pures_length] at this
    omega
  have hlb : ((ls.length : Int) != (ms.length : Int)) = false := by rw [hll]; simp
  have hmlen : ms.length ≤ 1048576 := by
    have := TT.wts_len (LT.pures ms)
    rw [LT.pures_length] at this
    omega
  obtain ⟨hb, ho, hhA, hhlt, hhc⟩ := hM.row.get (by intro e; have := congrArg List.length e; rw [rowCells_length VS.enc5] at this; simp at this)
  have hmark : w.cell? ⟨hb, ho + ms.length * 7, none⟩ = some (.int .i64 (-99)) := by
    refine hhc _ _ ?_
    rw [← hll, rowCells_append, List.getElem?_append_right (by rw [rowCells_length VS.enc5]; omega), rowCells_length VS.enc5, Nat.sub_self]
    rfl
  have hcapI : (ms.length : Int) + 1 ≤ (h.cap : Int) := by have := hM.cap; omega
  have H0 := Lib.hid (show _ ∧ _ ∧ _ ∧ _ ∧ _ ∧ _ ∧ _ ∧ _ ∧ _ from ⟨hA, hM, hB, hT, hC, hpl, hpt, hll, hlt'⟩)
  have HREC := Lib.hid HI
  clear hA hM hB hT hC hpl hpt hll HI hhlt hhc
  obtain ⟨hA0, hcap0⟩ := h
  simp only at hhA
  subst hhA
  go_enter Tryd.func17, Tryd.ntmps17
  go_wp2
  go_loopw [7] (fun vi wr => ∃ k : Nat, k ≤ ms.length ∧ vi = .int .i64 k ∧ Below w.heap.size w wr) (fun vi _ => ms.length - (intOf vi).toNat)
  case atStart => exact ⟨0, by omega, rfl, Below.refl _ _⟩
  case round =>
    obtain ⟨k, hk, rfl, hbw⟩ := hrel
    have HBW := Lib.hid hbw
    clear hbw hmark
    by_cases hlt : k < ms.length
    · have hll := H0.out.2.2.2.2.2.2.2.1
      have hlt' := H0.out.2.2.2.2.2.2.2.2
      have hlt1 : k < ls.length := by omega
      have hlt2 : k < ts.length := by omega
      have hil : (k : Int) < (ls.length : Int) := by omega
      have hit : (k : Int) < (ts.length : Int) := by omega
      obtain ⟨b1, o1, hAe, hblt1, hcs1, hrd1⟩ := (H0.out.1.below HBW.out).get VS.enc5 k hlt1
      simp only [Option.some.injEq, Addr.mk.injEq, and_true] at hAe
      obtain ⟨rfl, rfl⟩ := hAe
      obtain ⟨b2, o2, rfl, hblt2, hcs2, hrd2⟩ := (H0.out.2.2.1.below HBW.out).get VS.enc5 k hlt2
      obtain ⟨b3, o3, rfl, hblt3, hcs3, hrd3⟩ := (H0.out.2.2.2.2.1.below HBW.out).get PS.enc5 k hlt
      have he1 : (ms[k]).pure.map PS.all = (ls[k]).pure := by
        refine Eq.symm ?_
        have h1 : (LT.pures ls)[k]? = (TT.maps PS.all (LT.pures ms))[k]? := by rw [H0.out.2.2.2.2.2.1]
        rw [LT.pures_map, TT.maps_map, LT.pures_map] at h1
        simpa [hlt, hlt1] using h1
      have he2 : (ls[k]).pure = (ts[k]).pure := by
        refine Eq.symm ?_
        have h1 : (LT.pures ts)[k]? = (LT.pures ls)[k]? := by rw [H0.out.2.2.2.2.2.2.1]
        rw [LT.pures_map, LT.pures_map] at h1
        simpa [hlt2, hlt1] using h1
      have hmk : (ls[k]).Mkd wr := (H0.out.2.1.all _ (List.getElem_mem hlt1)).keep HBW.out
      have htx : (ts[k]).Txd wr := (H0.out.2.2.2.1 _ (List.getElem_mem hlt2)).keep HBW.out
      have hcp : LT.cnts (ms[k]).parts < n := by
        have h1 := LT.cnt_parts ms[k]
        have h2 := LT.cnt_mem (List.getElem_mem hlt)
        omega
      have hwp : (ms[k]).pure.wt ≤ 1048576 := by
        have h1 : (ms[k]).pure ∈ LT.pures ms := by rw [LT.pures_map]; exact List.mem_map_of_mem (List.getElem_mem hlt)
        have := TT.wt_mem h1
        omega
      generalize ls[k] = l at *
      generalize ts[k] = t at *
      generalize ms[k] = m at *
      obtain ⟨⟨kd, bb, nn, re, im⟩, th0, tx, ph0, ps⟩ := m
      obtain ⟨⟨kd1, bb1, nn1, rl1, re1, im1⟩, th, tx1, ph, ps1⟩ := l
      obtain ⟨⟨kd2, bb2, nn2, rl2, re2, im2⟩, th', tx2, ph', ps2⟩ := t
      simp only [LT.pure, TT.map, TT.mk.injEq, PS.all, VS.mk.injEq] at he1 he2
      obtain ⟨⟨rfl, rfl, rfl, rfl, rfl, rfl⟩, rfl, hps2⟩ := he2
      obtain ⟨⟨rfl, rfl, rfl, rfl, rfl, rfl⟩, rfl, hps1⟩ := he1
      have A0 : wr.cell? ⟨hb, ho + k * 7, none⟩ = some (.int .i64 kd) := rd_cell7 0 hcs1 (by omega) rfl
      have A1 : wr.cell? ⟨hb, ho + k * 7 + 1, none⟩ = some (.bool bb) := rd_cell7 1 hcs1 (by omega) rfl
      have A2 : wr.cell? ⟨hb, ho + k * 7 + 2, none⟩ = some (.int .i64 nn) := rd_cell7 2 hcs1 (by omega) rfl
      have A3 : wr.cell? ⟨hb, ho + k * 7 + 3, none⟩ = some (.float .f64 re) := rd_cell7 3 hcs1 (by omega) rfl
      have A4 : wr.cell? ⟨hb, ho + k * 7 + 4, none⟩ = some (.complex .f64 re im) := rd_cell7 4 hcs1 (by omega) rfl
      have A5 : wr.cell? ⟨hb, ho + k * 7 + 5, none⟩ = some (.slice th.A tx.length th.cap) := rd_cell7 5 hcs1 (by omega) rfl
      have A6 : wr.cell? ⟨hb, ho + k * 7 + 6, none⟩ = some (.slice ph.A ps1.length ph.cap) := rd_cell7 6 hcs1 (by omega) rfl
      have B0 : wr.cell? ⟨b2, o2 + k * 7, none⟩ = some (.int .i64 kd) := rd_cell7 0 hcs2 (by omega) rfl
      have B1 : wr.cell? ⟨b2, o2 + k * 7 + 1, none⟩ = some (.bool bb) := rd_cell7 1 hcs2 (by omega) rfl
      have B2 : wr.cell? ⟨b2, o2 + k * 7 + 2, none⟩ = some (.int .i64 nn) := rd_cell7 2 hcs2 (by omega) rfl
      have B3 : wr.cell? ⟨b2, o2 + k * 7 + 3, none⟩ = some (.float .f64 re) := rd_cell7 3 hcs2 (by omega) rfl
      have B4 : wr.cell? ⟨b2, o2 + k * 7 + 4, none⟩ = some (.complex .f64 re im) := rd_cell7 4 hcs2 (by omega) rfl
      have B5 : wr.cell? ⟨b2, o2 + k * 7 + 5, none⟩ = some (.slice th'.A tx.length th'.cap) := rd_cell7 5 hcs2 (by omega) rfl
      have B6 : wr.cell? ⟨b2, o2 + k * 7 + 6, none⟩ = some (.slice ph'.A ps2.length ph'.cap) := rd_cell7 6 hcs2 (by omega) rfl
      have C0 : wr.cell? ⟨b3, o3 + k * 7, none⟩ = some (.int .i64 kd) := rd_cell7 0 hcs3 (by omega) rfl
      have C1 : wr.cell? ⟨b3, o3 + k * 7 + 1, none⟩ = some (.bool bb) := rd_cell7 1 hcs3 (by omega) rfl
      have C2 : wr.cell? ⟨b3, o3 + k * 7 + 2, none⟩ = some (.int .i64 nn) := rd_cell7 2 hcs3 (by omega) rfl
      have C3 : wr.cell? ⟨b3, o3 + k * 7 + 3, none⟩ = some (.int .u64 re) := rd_cell7 3 hcs3 (by omega) rfl
      have C4 : wr.cell? ⟨b3, o3 + k * 7 + 4, none⟩ = some (.int .u64 im) := rd_cell7 4 hcs3 (by omega) rfl
      have C5 : wr.cell? ⟨b3, o3 + k * 7 + 5, none⟩ = some (.slice th0.A tx.length th0.cap) := rd_cell7 5 hcs3 (by omega) rfl
      have C6 : wr.cell? ⟨b3, o3 + k * 7 + 6, none⟩ = some (.slice ph0.A ps.length ph0.cap) := rd_cell7 6 hcs3 (by omega) rfl
      have htl : tx.length ≤ 67108928 := by
        simp only [LT.pure, TT.wt] at hwp
        omega
      have hwps : TT.wts (LT.pures ps) ≤ 1048576 := by
        simp only [LT.pure, TT.wt] at hwp
        omega
      have HX := Lib.hid (show _ ∧ _ ∧ _ ∧ _ ∧ _ ∧ _ ∧ _ ∧ _ ∧ _ from ⟨hrd1, hrd2, hrd3, hps1, hps2, hmk, htx, hcp, hwps⟩)
      clear hcs1 hcs2 hcs3 hrd1 hrd2 hrd3 hps1 hps2 hmk htx hcp hwps hwp hll hlt'
      have hxb := run_bits
      go_upto_region 6 with (fail)
      go_cut [8, 9, 10] (fun v8 v9 v10 wc => ∃ g8 g9 g10 : Nat, v8 = .pointer (some ⟨g8, 0, none⟩) ∧ v9 = .pointer (some ⟨g9, 0, none⟩) ∧ v10 = .pointer (some ⟨g10, 0, none⟩) ∧ wc.heap[g8]? = some (.cells #[.int .i64 kd, .bool bb, .int .i64 nn, .int .u64 re, .int .u64 im, .slice th0.A tx.length th0.cap, .slice ph0.A ps.length ph0.cap] 69 (0, 0)) ∧ wc.heap[g9]? = some (.cells #[.int .i64 kd, .bool bb, .int .i64 nn, .float .f64 re, .complex .f64 re im, .slice th.A tx.length th.cap, .slice ph.A ps1.length ph.cap] 46 (0, 0)) ∧ wc.heap[g10]? = some (.cells #[.int .i64 kd, .bool bb, .int .i64 nn, .float .f64 re, .complex .f64 re im, .slice th'.A tx.length th'.cap, .slice ph'.A ps2.length ph'.cap] 46 (0, 0)) ∧ Below wr.heap.size wr wc)
      case first =>
        have q1 : ∀ (O1 O2 O3 : Obj) (x : Nat), (((wr.alloc O1).alloc O2).alloc O3).cell? ⟨hb, x, none⟩ = wr.cell? ⟨hb, x, none⟩ := fun O1 O2 O3 x => cell_three wr O1 O2 O3 hblt1 x
        have q2 : ∀ (O1 O2 O3 : Obj) (x : Nat), (((wr.alloc O1).alloc O2).alloc O3).cell? ⟨b2, x, none⟩ = wr.cell? ⟨b2, x, none⟩ := fun O1 O2 O3 x => cell_three wr O1 O2 O3 hblt2 x
        have q3 : ∀ (O1 O2 O3 : Obj) (x : Nat), (((wr.alloc O1).alloc O2).alloc O3).cell? ⟨b3, x, none⟩ = wr.cell? ⟨b3, x, none⟩ := fun O1 O2 O3 x => cell_three wr O1 O2 O3 hblt3 x
        go_region
        all_goals
          go_wp2
          go_meet
          case rel => exact ⟨_, _, _, rfl, rfl, rfl, (by first | exact blk_alloc (blk_alloc (blk_new _ _) _) _ | exact blk_alloc (blk_two _ _ _) _ | exact blk_thr _ _ _ _), (by first | exact blk_alloc (blk_alloc (blk_new _ _) _) _ | exact blk_alloc (blk_two _ _ _) _ | exact blk_thr _ _ _ _), (by first | exact blk_alloc (blk_alloc (blk_new _ _) _) _ | exact blk_alloc (blk_two _ _ _) _ | exact blk_thr _ _ _ _), ((((Below.refl _ _).alloc (Nat.le_refl _) _).alloc (by simp) _).alloc (by simp; omega) _).drew⟩
      case rest =>
        obtain ⟨g8, g9, g10, rfl, rfl, rfl, hx8, hv9, hw10, hbc⟩ := hcut
        clear A0 A1 A2 A3 A4 A5 A6 B0 B1 B2 B3 B4 B5 B6 C0 C1 C2 C3 C4 C5 C6
        have c0 : wc.cell? ⟨g8, 0, none⟩ = _ := (blk_cell hx8 0).trans rfl
        have c1 : wc.cell? ⟨g8, 1, none⟩ = _ := (blk_cell hx8 1).trans rfl
        have c2 : wc.cell? ⟨g8, 2, none⟩ = _ := (blk_cell hx8 2).trans rfl
        have c3 : wc.cell? ⟨g8, 3, none⟩ = _ := (blk_cell hx8 3).trans rfl
        have c4 : wc.cell? ⟨g8, 4, none⟩ = _ := (blk_cell hx8 4).trans rfl
        have c5 : wc.cell? ⟨g8, 5, none⟩ = _ := (blk_cell hx8 5).trans rfl
        have c6 : wc.cell? ⟨g8, 6, none⟩ = _ := (blk_cell hx8 6).trans rfl
        have d0 : wc.cell? ⟨g9, 0, none⟩ = _ := (blk_cell hv9 0).trans rfl
        have d1 : wc.cell? ⟨g9, 1, none⟩ = _ := (blk_cell hv9 1).trans rfl
        have d2 : wc.cell? ⟨g9, 2, none⟩ = _ := (blk_cell hv9 2).trans rfl
        have d3 : wc.cell? ⟨g9, 3, none⟩ = _ := (blk_cell hv9 3).trans rfl
        have d4 : wc.cell? ⟨g9, 4, none⟩ = _ := (blk_cell hv9 4).trans rfl
        have d5 : wc.cell? ⟨g9, 5, none⟩ = _ := (blk_cell hv9 5).trans rfl
        have d6 : wc.cell? ⟨g9, 6, none⟩ = _ := (blk_cell hv9 6).trans rfl
        have f0 : wc.cell? ⟨g10, 0, none⟩ = _ := (blk_cell hw10 0).trans rfl
        have f1 : wc.cell? ⟨g10, 1, none⟩ = _ := (blk_cell hw10 1).trans rfl
        have f2 : wc.cell? ⟨g10, 2, none⟩ = _ := (blk_cell hw10 2).trans rfl
        have f3 : wc.cell? ⟨g10, 3, none⟩ = _ := (blk_cell hw10 3).trans rfl
        have f4 : wc.cell? ⟨g10, 4, none⟩ = _ := (blk_cell hw10 4).trans rfl
        have f5 : wc.cell? ⟨g10, 5, none⟩ = _ := (blk_cell hw10 5).trans rfl
        have f6 : wc.cell? ⟨g10, 6, none⟩ = _ := (blk_cell hw10 6).trans rfl
        have htc1 : (tx.length : Int) + 2 ≤ (th'.cap : Int) := by
          cases HX.out.2.2.2.2.2.2.1 with | mk _ hc _ => exact (by have : tx.length + 2 ≤ th'.cap := hc; omega)
        have hmr : Row wr th'.A (nums8 (tx ++ [201, 77])) := by
          cases HX.out.2.2.2.2.2.2.1 with | mk ht _ _ => exact ht
        obtain ⟨tb, tf, htA, htlt, htc⟩ := (hmr.below hbc).get (by simp [nums8])
        have m1 : wc.cell? ⟨tb, tf + tx.length, none⟩ = some (.int .u8 201) := htc _ _ (by simp [nums8])
        have m2 : wc.cell? ⟨tb, tf + (tx.length + 1), none⟩ = some (.int .u8 77) := htc _ _ (by simp [nums8])
        have HC := Lib.hid (show _ ∧ _ from ⟨hbc, hmr⟩)
        clear hx8 hv9 hw10 hbc hmr htc
        obtain ⟨thA, thc⟩ := th'
        simp only at htA
        subst htA
        have hs1 : ∀ w', Below wc.heap.size wc w' → Calls Tryd.prog 18 #[.slice th.A tx.length th.cap, .slice th0.A tx.length th0.cap] w' fun e w'' => e = .returned (.bool true) ∧ Drawn0 w' w'' := fun w' hb => (same_calls _ _ _ tx tx _ _ ((HX.out.1.textRow.below HC.out.1).below hb) ((HX.out.2.2.1.textRow.below HC.out.1).below hb) HX.out.1.textLen).mono fun e w'' h => ⟨by rw [h.1, decide_eq_true rfl], h.2⟩
        have hs2 : ∀ w', Below wc.heap.size wc w' → Calls Tryd.prog 18 #[.slice (some ⟨tb, tf, none⟩) tx.length thc, .slice th0.A tx.length th0.cap] w' fun e w'' => e = .returned (.bool true) ∧ Drawn0 w' w'' := fun w' hb => (same_calls _ _ _ tx tx _ _ ((HX.out.2.1.textRow.below HC.out.1).below hb) ((HX.out.2.2.1.textRow.below HC.out.1).below hb) HX.out.1.textLen).mono fun e w'' h => ⟨by rw [h.1, decide_eq_true rfl], h.2⟩
        have HS := Lib.hid (show _ ∧ _ from ⟨hs1, hs2⟩)
        clear hs1 hs2
        go_upto_region 8 with (fail)
        go_quiet (fail)
        go_wp2_with fail
        refine (HS.out.1 _ (pw_below_drewN (Below.refl _ _) _)).mono ?_
        rintro e w4 ⟨rfl, ⟨nd, rfl⟩⟩
        go_wp2_with fail
        refine (HS.out.2 _ (pw_below_drewN (Below.refl _ _) _)).mono ?_
        rintro e w5 ⟨rfl, ⟨nd2, rfl⟩⟩
        have hll1 : ps1.length = ps.length := by
          have := congrArg List.length HX.out.2.2.2.1
          rw [LT.pures_length, TT.maps_length, LT.pures_length] at this
          exact this.symm
        have hbn : ((ps1.length : Int) != (ps.length : Int)) = false := by rw [hll1]; simp
        have HLL := Lib.hid hll1
        clear hll1
        go_wp2_with fail
        have hmp : MkdL wr ph ps1 := by
          cases HX.out.2.2.2.2.2.1 with | mk _ _ hp hq hs => exact ⟨hp, hq, hs⟩
        have htp : ∀ p ∈ ps2, LT.Txd wr p := by
          cases HX.out.2.2.2.2.2.2.1 with | mk _ _ hs => exact hs
        have hbz : ∀ q, Below wr.heap.size wr (wc.drewN q) := fun q => pw_below_drewN HC.out.1 q
        refine (HREC.out (LT.cnts ps) HX.out.2.2.2.2.2.2.2.1 _ ph _ _ _ _ ps1 ps2 ps (Nat.le_refl _) (HX.out.1.parts.below (hbz _)) (hmp.below (hbz _)) (HX.out.2.1.parts.below (hbz _)) (fun p hp => (htp p hp).keep (hbz _)) (HX.out.2.2.1.parts.below (hbz _)) HX.out.2.2.2.2.2.2.2.2 HX.out.2.2.2.1.symm HX.out.2.2.2.2.1.symm).mono ?_
        rintro e w6 ⟨rfl, hb6⟩
        have HB6 := Lib.hid hb6
        clear hb6
        go_wp2
        go_roundw
        case rel => exact ⟨k + 1, by omega, by go_num, ((HBW.out.trans (HC.out.1.mono HBW.out.size)).trans (pw_below_drewN (Below.refl _ _) _)).trans (HB6.out.mono (Nat.le_trans HBW.out.size HC.out.1.size))⟩
        case measure => simp [intOf]; omega
    · go_wp2
      go_ret
      exact ⟨rfl, HBW.out⟩
theorem kept_all (n : Nat) : KeptAt n := by
  induction n using Nat.strongRecOn with
  | ind n ih => exact kept_of n ih
end Go.Proofs.YtplfmpcoojkjlaaDoor
