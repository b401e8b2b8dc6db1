/- The law told: what the reader told is what the program told. -/
import Derived.Test.YtplfmpcoojkjlaaDoorK30
import Derived.Test.YtplfmpcoojkjlaaDoorK8
namespace Go.Proofs.YtplfmpcoojkjlaaDoor
open Go.RowKit Go.Proofs.YtplfmpcoojkjlaaDoorW.PrintWords
theorem PS.enc_eq (k : Int) (b : Bool) (n : Int) (re im : Nat) : (PS.mk k b n re im).enc = [.int .i64 k, .bool b, .int .i64 n, .int .u64 re, .int .u64 im] := rfl
theorem rd_cell {w : World} {b o i : Nat} {cs : List Value} {v : Value} (j : Nat) (hc : ∀ j u, j < 7 → cs[j]? = some u → w.cell? ⟨b, o + (i * 7 + j), none⟩ = some u) (hj : j < 7) (hv : cs[j]? = some v) : w.cell? ⟨b, o + i * 7 + j, none⟩ = some v := by
  rw [Nat.add_assoc]; exact hc j v hj hv
theorem blk_new2 (w : World) (A B : Obj) : ((w.alloc A).alloc B).heap[w.heap.size + 1]? = some B := by
  have h : (w.alloc A).heap.size = w.heap.size + 1 := by simp
  rw [← h]
  exact blk_new _ _
def ToldAt (n : Nat) : Prop := ∀ (w : World) (A B : Option Addr) (c d : Nat) (ls : List (LT VS)) (ms : List (LT PS)), LT.cnts ms ≤ n → RdL VS.enc w A ls → RdL PS.enc w B ms → LT.pures ls = TT.maps PS.ans (LT.pures ms) →
  Calls Tryd.prog 26 #[.slice A ls.length c, .slice B ms.length d] w fun e w' => e = .returned (.bool true) ∧ Below w.heap.size w w'
set_option maxRecDepth 100000 in
set_option maxHeartbeats 4000000 in
theorem told_of (n : Nat) (HI : ∀ m, m < n → ToldAt m) : ToldAt n := by
  intro w A B c d ls ms hcnt hA hB heq
  have hlen : ls.length = ms.length := by
    have := congrArg List.length heq
    rwa [LT.pures_length, TT.maps_length, LT.pures_length] at this
  have hlb : ((ls.length : Int) != (ms.length : Int)) = false := by rw [hlen]; simp
  have HL := Lib.hid hlen
  have HA := Lib.hid hA
  have HB := Lib.hid hB
  have HEQ := Lib.hid heq
  have HREC := Lib.hid HI
  have hmlen : ms.length ≤ 9223372036854775807 := hB.len
  clear hlen hA hB heq HI
  go_enter Tryd.func26, Tryd.ntmps26
  go_wp2
  go_loopw [5] (fun vi wr => ∃ k : Nat, k ≤ ms.length ∧ vi = .int .i64 k ∧ Below w.heap.size w wr) (fun vi _ => ms.length - (intOf vi).toNat)
  case atStart => exact ⟨0, by omega, rfl, Below.refl _ _⟩
  case round =>
    obtain ⟨k, hk, rfl, hb⟩ := hrel
    have HBW := Lib.hid hb
    clear hb
    by_cases hlt : k < ms.length
    · have hlt2 : k < ls.length := by have := HL.out; omega
      have hil : (k : Int) < (ls.length : Int) := by omega
      obtain ⟨b, o, rfl, hblt, hcs, hrd⟩ := (HA.out.below HBW.out).get VS.enc5 k hlt2
      obtain ⟨b2, o2, rfl, hblt2, hcs2, hrd2⟩ := (HB.out.below HBW.out).get PS.enc5 k hlt
      have he : (ls[k]).pure = (ms[k]).pure.map PS.ans := by
        have h1 : (LT.pures ls)[k]? = (TT.maps PS.ans (LT.pures ms))[k]? := by rw [HEQ.out]
        rw [LT.pures_map, TT.maps_map, LT.pures_map] at h1
        simpa [hlt, hlt2] using h1
      have hcp : LT.cnts (ms[k]).parts < n := by
        have h1 := LT.cnt_parts ms[k]
        have h2 := LT.cnt_mem (List.getElem_mem hlt)
        omega
      generalize ls[k] = l at *
      generalize ms[k] = m at *
      obtain ⟨⟨kd0, bb0, nn0, re, im⟩, th, tx0, ph, ps⟩ := m
      obtain ⟨⟨kd, bb, nn, rl, pre, pim⟩, th', tx, ph', ps'⟩ := l
      simp only [LT.pure, TT.map, TT.mk.injEq, PS.ans, VS.mk.injEq] at he
      obtain ⟨⟨rfl, rfl, rfl, rfl, rfl, rfl⟩, rfl, hps⟩ := he
      have a0 : wr.cell? ⟨b, o + k * 7, none⟩ = some (.int .i64 kd) := rd_cell 0 hcs (by omega) rfl
      have a1 : wr.cell? ⟨b, o + k * 7 + 1, none⟩ = some (.bool bb) := rd_cell 1 hcs (by omega) rfl
      have a2 : wr.cell? ⟨b, o + k * 7 + 2, none⟩ = some (.int .i64 nn) := rd_cell 2 hcs (by omega) rfl
      have a3 : wr.cell? ⟨b, o + k * 7 + 3, none⟩ = some (.float .f64 (if kd = 4 then re else 0)) := rd_cell 3 hcs (by omega) rfl
      have a4 : wr.cell? ⟨b, o + k * 7 + 4, none⟩ = some (.complex .f64 (if kd = 5 then re else 0) (if kd = 5 then im else 0)) := rd_cell 4 hcs (by omega) rfl
      have a5 : wr.cell? ⟨b, o + k * 7 + 5, none⟩ = some (.slice th'.A tx.length th'.cap) := rd_cell 5 hcs (by omega) rfl
      have a6 : wr.cell? ⟨b, o + k * 7 + 6, none⟩ = some (.slice ph'.A ps'.length ph'.cap) := rd_cell 6 hcs (by omega) rfl
      have b0 : wr.cell? ⟨b2, o2 + k * 7, none⟩ = some (.int .i64 kd) := rd_cell 0 hcs2 (by omega) rfl
      have b1 : wr.cell? ⟨b2, o2 + k * 7 + 1, none⟩ = some (.bool bb) := rd_cell 1 hcs2 (by omega) rfl
      have b2' : wr.cell? ⟨b2, o2 + k * 7 + 2, none⟩ = some (.int .i64 nn) := rd_cell 2 hcs2 (by omega) rfl
      have b3 : wr.cell? ⟨b2, o2 + k * 7 + 3, none⟩ = some (.int .u64 re) := rd_cell 3 hcs2 (by omega) rfl
      have b4 : wr.cell? ⟨b2, o2 + k * 7 + 4, none⟩ = some (.int .u64 im) := rd_cell 4 hcs2 (by omega) rfl
      have b5 : wr.cell? ⟨b2, o2 + k * 7 + 5, none⟩ = some (.slice th.A tx.length th.cap) := rd_cell 5 hcs2 (by omega) rfl
      have b6 : wr.cell? ⟨b2, o2 + k * 7 + 6, none⟩ = some (.slice ph.A ps.length ph.cap) := rd_cell 6 hcs2 (by omega) rfl
      have HX := Lib.hid (show _ ∧ _ ∧ _ ∧ _ from ⟨hrd, hrd2, hps, hcp⟩)
      clear hcs hcs2 hrd hrd2 hps hcp
      have hxb := run_bits
      go_upto_region 6 with (fail)
      go_cut [6, 7] (fun v6 v7 wc => ∃ g6 g7 : Nat, v6 = .pointer (some ⟨g6, 0, none⟩) ∧ v7 = .pointer (some ⟨g7, 0, none⟩) ∧ wc.heap[g6]? = some (.cells #[.int .i64 kd, .bool bb, .int .i64 nn, .int .u64 re, .int .u64 im, .slice th.A tx.length th.cap, .slice ph.A ps.length ph.cap] 69 (0, 0)) ∧ wc.heap[g7]? = some (.cells #[.int .i64 kd, .bool bb, .int .i64 nn, .float .f64 (if kd = 4 then re else 0), .complex .f64 (if kd = 5 then re else 0) (if kd = 5 then im else 0), .slice th'.A tx.length th'.cap, .slice ph'.A ps'.length ph'.cap] 46 (0, 0)) ∧ Below wr.heap.size wr wc)
      case first =>
        generalize (if kd = 4 then re else 0) = r4 at *
        generalize (if kd = 5 then re else 0) = r5 at *
        generalize (if kd = 5 then im else 0) = i5 at *
        go_region
        all_goals
          go_wp2
          go_meet
          case rel => exact ⟨_, _, rfl, rfl, (by first | exact blk_alloc (blk_new _ _) _ | exact blk_new2 _ _ _), (by first | exact blk_alloc (blk_new _ _) _ | exact blk_new2 _ _ _), (((Below.refl _ _).alloc (Nat.le_refl _) _).alloc (by simp) _).drew⟩
      case rest =>
        obtain ⟨g6, g7, rfl, rfl, hx6, hv7, hbc⟩ := hcut
        clear a0 a1 a2 a3 a4 a5 a6 b0 b1 b2' b3 b4 b5 b6
        have c0 : wc.cell? ⟨g6, 0, none⟩ = _ := (blk_cell hx6 0).trans rfl
        have c1 : wc.cell? ⟨g6, 1, none⟩ = _ := (blk_cell hx6 1).trans rfl
        have c2 : wc.cell? ⟨g6, 2, none⟩ = _ := (blk_cell hx6 2).trans rfl
        have c3 : wc.cell? ⟨g6, 3, none⟩ = _ := (blk_cell hx6 3).trans rfl
        have c4 : wc.cell? ⟨g6, 4, none⟩ = _ := (blk_cell hx6 4).trans rfl
        have c5 : wc.cell? ⟨g6, 5, none⟩ = _ := (blk_cell hx6 5).trans rfl
        have c6 : wc.cell? ⟨g6, 6, none⟩ = _ := (blk_cell hx6 6).trans rfl
        have d0 : wc.cell? ⟨g7, 0, none⟩ = _ := (blk_cell hv7 0).trans rfl
        have d1 : wc.cell? ⟨g7, 1, none⟩ = _ := (blk_cell hv7 1).trans rfl
        have d2 : wc.cell? ⟨g7, 2, none⟩ = _ := (blk_cell hv7 2).trans rfl
        have d3 : wc.cell? ⟨g7, 3, none⟩ = _ := (blk_cell hv7 3).trans rfl
        have d4 : wc.cell? ⟨g7, 4, none⟩ = _ := (blk_cell hv7 4).trans rfl
        have d5 : wc.cell? ⟨g7, 5, none⟩ = _ := (blk_cell hv7 5).trans rfl
        have d6 : wc.cell? ⟨g7, 6, none⟩ = _ := (blk_cell hv7 6).trans rfl
        have HC := Lib.hid (show _ ∧ _ ∧ _ from ⟨hx6, hv7, hbc⟩)
        have hown : (th'.cap : Int) = th'.cap := rfl
        clear hx6 hv7 hbc hown
        by_cases h4 : kd = 4
        · subst h4
          simp only [if_true] at d3
          simp only [if_neg (show ¬ ((4:Int) = 5) by decide)] at d4
          go_wp2_with fail
          refine (same_calls _ _ _ tx tx _ _ (HX.out.1.textRow.below HC.out.2.2) (HX.out.2.1.textRow.below HC.out.2.2) HX.out.1.textLen).mono ?_
          rintro e w4 ⟨rfl, ⟨nd, rfl⟩⟩
          rw [show decide (tx = tx) = true from decide_eq_true rfl]
          go_wp2_with fail
          refine (HREC.out (LT.cnts ps) HX.out.2.2.2 _ _ _ _ _ ps' ps (Nat.le_refl _) ((HX.out.1.parts.below HC.out.2.2).below (pw_below_drewN (Below.refl _ _) nd)) ((HX.out.2.1.parts.below HC.out.2.2).below (pw_below_drewN (Below.refl _ _) nd)) HX.out.2.2.1).mono ?_
          rintro e w5 ⟨rfl, hb5⟩
          have HB5 := Lib.hid hb5
          clear hb5
          go_wp2
          go_roundw
          case rel => exact ⟨k + 1, by omega, by go_num, ((HBW.out.trans (HC.out.2.2.mono HBW.out.size)).trans (pw_below_drewN (Below.refl _ _) nd)).trans (HB5.out.mono (Nat.le_trans HBW.out.size HC.out.2.2.size))⟩
          case measure => simp [intOf]; omega
        · by_cases h5 : kd = 5
          · subst h5
            simp only [if_neg (show ¬ ((5:Int) = 4) by decide)] at d3
            simp only [if_true] at d4
            go_wp2_with fail
            go_quiet (fail)
            have HCq := Lib.hid (show Below wr.heap.size wr (wc.drewN nq) from pw_below_drewN HC.out.2.2 nq)
            go_wp2_with fail
            refine (same_calls _ _ _ tx tx _ _ (HX.out.1.textRow.below HCq.out) (HX.out.2.1.textRow.below HCq.out) HX.out.1.textLen).mono ?_
            rintro e w4 ⟨rfl, ⟨nd, rfl⟩⟩
            rw [show decide (tx = tx) = true from decide_eq_true rfl]
            go_wp2_with fail
            refine (HREC.out (LT.cnts ps) HX.out.2.2.2 _ _ _ _ _ ps' ps (Nat.le_refl _) (HX.out.1.parts.below (pw_below_drewN HC.out.2.2 _)) (HX.out.2.1.parts.below (pw_below_drewN HC.out.2.2 _)) HX.out.2.2.1).mono ?_
            rintro e w5 ⟨rfl, hb5⟩
            have HB5 := Lib.hid hb5
            clear hb5
            go_wp2
            go_roundw
            case rel => exact ⟨k + 1, by omega, by go_num, ((HBW.out.trans (HC.out.2.2.mono HBW.out.size)).trans (pw_below_drewN (Below.refl _ _) _)).trans (HB5.out.mono (Nat.le_trans HBW.out.size HC.out.2.2.size))⟩
            case measure => simp [intOf]; omega
          · rw [if_neg h4] at d3
            rw [if_neg h5, if_neg h5] at d4
            have h4b : (kd == 4) = false := by simpa using h4
            have h5b : (kd == 5) = false := by simpa using h5
            clear h4 h5
            go_wp2_with fail
            refine (same_calls _ _ _ tx tx _ _ (HX.out.1.textRow.below HC.out.2.2) (HX.out.2.1.textRow.below HC.out.2.2) HX.out.1.textLen).mono ?_
            rintro e w4 ⟨rfl, ⟨nd, rfl⟩⟩
            rw [show decide (tx = tx) = true from decide_eq_true rfl]
            go_wp2_with fail
            refine (HREC.out (LT.cnts ps) HX.out.2.2.2 _ _ _ _ _ ps' ps (Nat.le_refl _) ((HX.out.1.parts.below HC.out.2.2).below (pw_below_drewN (Below.refl _ _) nd)) ((HX.out.2.1.parts.below HC.out.2.2).below (pw_below_drewN (Below.refl _ _) nd)) HX.out.2.2.1).mono ?_
            rintro e w5 ⟨rfl, hb5⟩
            have HB5 := Lib.hid hb5
            clear hb5
            go_wp2
            go_roundw
            case rel => exact ⟨k + 1, by omega, by go_num, ((HBW.out.trans (HC.out.2.2.mono HBW.out.size)).trans (pw_below_drewN (Below.refl _ _) nd)).trans (HB5.out.mono (Nat.le_trans HBW.out.size HC.out.2.2.size))⟩
            case measure => simp [intOf]; omega
    · go_wp2
      go_ret
      exact ⟨rfl, HBW.out⟩
theorem told_all (n : Nat) : ToldAt n := by
  induction n using Nat.strongRecOn with
  | ind n ih => exact told_of n ih
end Go.Proofs.YtplfmpcoojkjlaaDoor
