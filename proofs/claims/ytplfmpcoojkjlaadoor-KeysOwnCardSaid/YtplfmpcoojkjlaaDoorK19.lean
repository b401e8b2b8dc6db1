/- The walk of values: a row lent to the program. -/
import Derived.Test.YtplfmpcoojkjlaaDoorK18
import Derived.Test.YtplfmpcoojkjlaaDoorK30
import Derived.Deep.DeepCutAuto
import Derived.BigQuiet
import Derived.Deep.QuietTactic
namespace Go.Proofs.YtplfmpcoojkjlaaDoor
open Go.RowKit Go.Proofs.YtplfmpcoojkjlaaDoorW.PrintWords
theorem own_zero {w : World} {base : Nat} {e : TypeId} {size n : Nat} {v : Value} {xs : List Value} (h : w.ownsRow base e size v n xs) : w.ownsRow 0 e size v n xs := by
  obtain ⟨h1, h2⟩ := h
  refine ⟨h1, ?_⟩
  rcases h2 with h2 | ⟨g, cap, cur, a, b, r⟩
  · exact .inl h2
  · exact .inr ⟨g, cap, cur, a, Nat.zero_le _, r⟩
theorem blk_two (w : World) (A B : Obj) : ((w.alloc A).alloc B).heap[w.heap.size + 1]? = some B := by
  have h : (w.alloc A).heap.size = w.heap.size + 1 := by simp
  rw [← h]
  exact blk_new _ _
theorem blk_far {w : World} {g j : Nat} {o : Obj} {b : Nat} (h : w.heap[b]? = some o) (hne : b ≠ g) (u : Value) : (w.setCell ⟨g, j, none⟩ u).heap[b]? = some o := (Below.heap_setCell w ⟨g, j, none⟩ u b hne).trans h
def ValPost (w : World) (ps : List (TT PS)) (e : Ending) (w' : World) : Prop :=
  ∃ (h : Hdr) (ls : List (LT VS)), e = .returned (.slice h.A ls.length h.cap) ∧ LT.pures ls = TT.maps PS.all ps ∧ OwnL VS.enc 5 46 w' h ls ∧ (h.ids ++ LT.idss ls).Nodup ∧ (∀ k ∈ h.ids ++ LT.idss ls, w.heap.size ≤ k) ∧ MkdL w' h ls ∧ Below w.heap.size w w'
def ValAt (n : Nat) : Prop := ∀ (w : World) (A : Option Addr) (c : Nat) (ms : List (LT PS)), LT.cnts ms ≤ n → RdL PS.enc w A ms → TT.wts (LT.pures ms) ≤ 1048576 →
  Calls Tryd.prog 14 #[.slice A ms.length c] w (ValPost w (LT.pures ms))
set_option maxRecDepth 100000 in
set_option maxHeartbeats 4000000 in
theorem val_of (n : Nat) (HI : ∀ m, m < n → ValAt m) : ValAt n := by
  intro w A c ms hcnt hA hwt
  have HA := Lib.hid hA
  have HREC := Lib.hid HI
  have hmlen : ms.length ≤ 1048576 := by
    have := TT.wts_len (LT.pures ms)
    rw [LT.pures_length] at this
    omega
  clear hA HI
  have J0 : OwnL VS.enc 5 46 w ⟨none, 0⟩ [] := ⟨⟨rfl, .inl ⟨rfl, rfl⟩⟩, fun p hp => by cases hp⟩
  have HJ := Lib.hid J0
  clear J0
  go_enter Tryd.func14, Tryd.ntmps14
  go_wp2
  go_loopw [3, 4] (fun vo vi wr => ∃ (k : Nat) (h : Hdr) (ls : List (LT VS)), k ≤ ms.length ∧ vi = .int .i64 k ∧ vo = .slice h.A k h.cap ∧ ls.length = k ∧ LT.pures ls = TT.maps PS.all ((LT.pures ms).take k) ∧ OwnL VS.enc 5 46 wr h ls ∧ (h.ids ++ LT.idss ls).Nodup ∧ (∀ i ∈ h.ids ++ LT.idss ls, w.heap.size ≤ i) ∧ (∀ p ∈ ls, LT.Mkd wr p) ∧ Below w.heap.size w wr) (fun _ vi _ => ms.length - (intOf vi).toNat)
  case atStart => exact ⟨0, ⟨none, 0⟩, [], by omega, rfl, rfl, rfl, by simp [TT.maps, LT.pures], HJ.out, by simp [Hdr.ids, LT.idss], by simp [Hdr.ids, LT.idss], (fun p hp => by cases hp), Below.refl _ _⟩
  case round =>
    obtain ⟨k, h, ls, hk, rfl, rfl, hlen, hpu, hown, hnd, hge, hmk, hb⟩ := hrel
    have HLS := Lib.hid (show _ ∧ _ ∧ _ ∧ _ ∧ _ ∧ _ ∧ _ from ⟨hlen, hpu, hown, hnd, hge, hmk, hb⟩)
    clear hlen hpu hown hnd hge hmk hb HJ
    by_cases hlt : k < ms.length
    · obtain ⟨b, o, rfl, hblt, hcs, hrd⟩ := (HA.out.below HLS.out.2.2.2.2.2.2).get PS.enc5 k hlt
      have htake : (LT.pures ms).take (k + 1) = (LT.pures ms).take k ++ [(ms[k]).pure] := by
        rw [List.take_add_one]
        congr 1
        simp [LT.pures_map, hlt]
      have hcp : LT.cnts (ms[k]).parts < n := by
        have h1 := LT.cnt_parts ms[k]
        have h2 := LT.cnt_mem (List.getElem_mem hlt)
        omega
      have hwp : (ms[k]).pure.wt ≤ 1048576 := by
        have h1 : (ms[k]).pure ∈ LT.pures ms := by rw [LT.pures_map]; exact List.mem_map_of_mem (List.getElem_mem hlt)
        have := TT.wt_mem h1
        omega
      generalize ms[k] = m at *
      obtain ⟨⟨kd, bb, nn, re, im⟩, th, tx, ph, ps⟩ := m
      have b0 : wr.cell? ⟨b, o + k * 7, none⟩ = some (.int .i64 kd) := rd_cell7 0 hcs (by omega) rfl
      have b1 : wr.cell? ⟨b, o + k * 7 + 1, none⟩ = some (.bool bb) := rd_cell7 1 hcs (by omega) rfl
      have b2 : wr.cell? ⟨b, o + k * 7 + 2, none⟩ = some (.int .i64 nn) := rd_cell7 2 hcs (by omega) rfl
      have b3 : wr.cell? ⟨b, o + k * 7 + 3, none⟩ = some (.int .u64 re) := rd_cell7 3 hcs (by omega) rfl
      have b4 : wr.cell? ⟨b, o + k * 7 + 4, none⟩ = some (.int .u64 im) := rd_cell7 4 hcs (by omega) rfl
      have b5 : wr.cell? ⟨b, o + k * 7 + 5, none⟩ = some (.slice th.A tx.length th.cap) := rd_cell7 5 hcs (by omega) rfl
      have b6 : wr.cell? ⟨b, o + k * 7 + 6, none⟩ = some (.slice ph.A ps.length ph.cap) := rd_cell7 6 hcs (by omega) rfl
      have HX := Lib.hid (show _ ∧ _ ∧ _ ∧ _ from ⟨hrd, hcp, htake, hwp⟩)
      clear hcs hrd hcp htake hwp
      have hfb := run_frombits
      go_upto_region 6 with (fail)
      go_region
      go_upto_region 7 with (fail)
      go_cut [5, 6] (fun v5 v6 wc => v5 = .pointer (some ⟨wr.heap.size, 0, none⟩) ∧ v6 = .pointer (some ⟨wr.heap.size + 1, 0, none⟩) ∧ wc.heap[wr.heap.size]? = some (.cells #[.int .i64 kd, .bool bb, .int .i64 nn, .int .u64 re, .int .u64 im, .slice th.A tx.length th.cap, .slice ph.A ps.length ph.cap] 69 (0, 0)) ∧ wc.heap[wr.heap.size + 1]? = some (.cells #[.int .i64 kd, .bool bb, .int .i64 nn, .float .f64 re, .complex .f64 re im, .slice none 0 0, .slice none 0 0] 46 (0, 0)) ∧ Below wr.heap.size wr wc)
      case first =>
        go_region
        all_goals
          go_wp2
          go_meet
          case rel => exact ⟨rfl, rfl, (by first | exact blk_alloc (blk_new _ _) _ | exact blk_two _ _ _), (by first | exact blk_alloc (blk_new _ _) _ | exact blk_two _ _ _), (((Below.refl _ _).alloc (Nat.le_refl _) _).alloc (by simp) _).drew.drew⟩
      case rest =>
        obtain ⟨rfl, rfl, hx5, hv6, hbc⟩ := hcut
        clear b0 b1 b2 b3 b4 b5 b6
        have hsz6 : wr.heap.size + 1 < wc.heap.size := (Array.getElem?_eq_some_iff.1 hv6).1
        have htl : tx.length ≤ 67108928 := by
          have h1 := HX.out.2.2.2
          simp only [LT.pure, TT.wt] at h1
          omega
        have hps : TT.wts (LT.pures ps) ≤ 1048576 := by
          have h1 := HX.out.2.2.2
          simp only [LT.pure, TT.wt] at h1
          omega
        have hl := lent_calls wc th.A tx th.cap (HX.out.1.textRow.below hbc) (by omega)
        have c5 : wc.cell? ⟨wr.heap.size, 5, none⟩ = _ := (blk_cell hx5 5).trans rfl
        have HC := Lib.hid (show _ ∧ _ ∧ _ ∧ _ ∧ _ from ⟨hx5, hv6, hbc, hps, hl⟩)
        clear hx5 hv6 hbc hps hl
        go_wp2_with fail
        refine HC.out.2.2.2.2.mono ?_
        rintro e w2 ⟨T, tc, rfl, hT, hb2⟩
        have x5 := (hb2.block wr.heap.size (by omega)).trans HC.out.1
        have v6 := (hb2.block (wr.heap.size + 1) (by omega)).trans HC.out.2.1
        have hsz2 := hb2.size
        clear c5
        have d5 : w2.cell? ⟨wr.heap.size + 1, 5, none⟩ = _ := (blk_cell v6 5).trans rfl
        have hf6 := fun j => blk_frozen v6 j
        have c6 : w2.cell? ⟨wr.heap.size, 6, none⟩ = _ := (blk_cell x5 6).trans rfl
        have H2 := Lib.hid (show _ ∧ _ ∧ _ ∧ _ from ⟨hT, hb2, x5, v6⟩)
        clear hT hb2 x5 v6
        go_wp2_with fail
        have hW3 : Below wr.heap.size wr (w2.setCell ⟨wr.heap.size + 1, 5, none⟩ (.slice T tx.length tc)) := (HC.out.2.2.1.trans (H2.out.2.1.mono (by omega))).setCell (p := ⟨wr.heap.size + 1, 5, none⟩) (by simp) _
        refine (HREC.out (LT.cnts ps) HX.out.2.1 _ _ _ ps (Nat.le_refl _) (HX.out.1.parts.below hW3) HC.out.2.2.2.1).mono ?_
        rintro e w4 ⟨h2, ls2, rfl, hp2, ho2, hn2, hg2, hm2, hb4⟩
        have hs3 : (w2.setCell ⟨wr.heap.size + 1, 5, none⟩ (.slice T tx.length tc)).heap.size = w2.heap.size := by simp [World.setCell]
        rw [hs3] at hg2 hb4
        clear d5
        have y6 := (hb4.block (wr.heap.size + 1) (by omega)).trans (blk_set H2.out.2.2.2 5 (.slice T tx.length tc))
        have hl2 : ls2.length = ps.length := by
          have := congrArg List.length hp2
          rwa [LT.pures_length, TT.maps_length, LT.pures_length] at this
        have hT4 : w4.ownsRow wc.heap.size 5 1 (.slice T (tx.length + 2) tc) (tx.length + 2) (nums8 (tx ++ [201, 77])) := by
          refine ownsRow_move H2.out.1 fun q hq => ?_
          have := H2.out.1.lt q hq
          rw [hb4.block q this.2]
          exact Below.heap_setCell _ _ _ _ (by simp; omega)
        have hW4 : Below wr.heap.size wr w4 := hW3.trans (hb4.mono (by omega))
        have hsz4 := hb4.size
        have d0 : w4.cell? ⟨wr.heap.size + 1, 0, none⟩ = _ := (blk_cell y6 0).trans rfl
        have d1 : w4.cell? ⟨wr.heap.size + 1, 1, none⟩ = _ := (blk_cell y6 1).trans rfl
        have d2 : w4.cell? ⟨wr.heap.size + 1, 2, none⟩ = _ := (blk_cell y6 2).trans rfl
        have d3 : w4.cell? ⟨wr.heap.size + 1, 3, none⟩ = _ := (blk_cell y6 3).trans rfl
        have d4 : w4.cell? ⟨wr.heap.size + 1, 4, none⟩ = _ := (blk_cell y6 4).trans rfl
        have d5 : w4.cell? ⟨wr.heap.size + 1, 5, none⟩ = _ := (blk_cell y6 5).trans rfl
        have d6 : w4.cell? ⟨wr.heap.size + 1, 6, none⟩ = _ := (blk_cell y6 6).trans rfl
        have hf4 := fun j => blk_frozen y6 j
        have H4 := Lib.hid (show _ ∧ _ ∧ _ ∧ _ ∧ _ ∧ _ ∧ _ ∧ _ from ⟨hp2, ho2, hn2, hg2, hm2, hT4, hW4, y6⟩)
        clear hp2 ho2 hn2 hg2 hm2 hT4 hW4 y6 hb4 hs3 hW3 hf6 c6
        obtain ⟨gt, tc', hTe, hgt0, hgt1⟩ := H4.out.2.2.2.2.2.1.form (by omega)
        injection hTe with hTe1 hTe2 hTe3
        subst hTe1 hTe3
        have hmv : ∀ q, q ≠ wr.heap.size + 1 → ∀ u, (w4.setCell ⟨wr.heap.size + 1, 6, none⟩ u).heap[q]? = w4.heap[q]? := fun q hq u => Below.heap_setCell _ _ _ _ hq
        have hown : ∀ u, OwnL VS.enc 5 46 (w4.setCell ⟨wr.heap.size + 1, 6, none⟩ u) h ls := fun u => HLS.out.2.2.1.move fun q hq => by
          have := HLS.out.2.2.1.lt q (List.mem_append.2 hq)
          rw [hmv q (by omega) u]
          exact H4.out.2.2.2.2.2.2.1.block q this
        have hidl : (LT.mk (⟨kd, bb, nn, re, re, im⟩ : VS) ⟨some ⟨gt, 0, none⟩, tc⟩ tx h2 ls2).ids = gt :: (h2.ids ++ LT.idss ls2) := rfl
        have hlown : ∀ u, (LT.mk (⟨kd, bb, nn, re, re, im⟩ : VS) ⟨some ⟨gt, 0, none⟩, tc⟩ tx h2 ls2).Own VS.enc 5 46 (w4.setCell ⟨wr.heap.size + 1, 6, none⟩ u) := fun u => by
          have h1 : OwnL VS.enc 5 46 (w4.setCell ⟨wr.heap.size + 1, 6, none⟩ u) h2 ls2 := H4.out.2.1.move fun q hq => hmv q (by have := H4.out.2.2.2.1 q (List.mem_append.2 hq); omega) u
          refine .mk ?_ h1.row h1.all
          have h3 : (w4.setCell ⟨wr.heap.size + 1, 6, none⟩ u).ownsRow wc.heap.size 5 1 (.slice (some ⟨gt, 0, none⟩) (tx.length + 2) tc) (tx.length + 2) (nums8 (tx ++ [201, 77])) := ownsRow_move H4.out.2.2.2.2.2.1 fun q hq => hmv q (by
            simp only [Value.ownBlock, Option.some.injEq] at hq
            omega) u
          rw [nums8_append] at h3
          exact own_zero (own_cut (n := tx.length) (xs := nums8 tx) h3 (Nat.le_add_right _ _) (by simp))
        have hnd : ((h.ids ++ LT.idss ls) ++ (LT.mk (⟨kd, bb, nn, re, re, im⟩ : VS) ⟨some ⟨gt, 0, none⟩, tc⟩ tx h2 ls2).ids).Nodup := by
          rw [hidl]
          refine List.nodup_append.2 ⟨HLS.out.2.2.2.1, List.nodup_cons.2 ⟨fun hq => ?_, H4.out.2.2.1⟩, fun q hq q' hq' e => ?_⟩
          · have := H4.out.2.2.2.1 _ hq
            have := H2.out.1.lt gt rfl
            omega
          · have h1 := HLS.out.2.2.1.lt q hq
            rcases List.mem_cons.1 hq' with h3 | h3
            · omega
            · have := H4.out.2.2.2.1 _ h3
              omega
        have hge : ∀ q ∈ (h.ids ++ LT.idss ls) ++ (LT.mk (⟨kd, bb, nn, re, re, im⟩ : VS) ⟨some ⟨gt, 0, none⟩, tc⟩ tx h2 ls2).ids, w.heap.size ≤ q := by
          intro q hq
          rcases List.mem_append.1 hq with h3 | h3
          · exact HLS.out.2.2.2.2.1 q h3
          · have := HLS.out.2.2.2.2.2.2.size
            rw [hidl] at h3
            rcases List.mem_cons.1 h3 with h3 | h3
            · omega
            · have := H4.out.2.2.2.1 _ h3
              omega
        have hcs : #[.int .i64 kd, .bool bb, .int .i64 nn, .float .f64 re, .complex .f64 re im, .slice (some ⟨gt, 0, none⟩) tx.length tc, .slice h2.A ps.length h2.cap] = ((LT.mk (⟨kd, bb, nn, re, re, im⟩ : VS) ⟨some ⟨gt, 0, none⟩, tc⟩ tx h2 ls2).cells VS.enc).toArray := by
          rw [← hl2]; rfl
        have HO := Lib.hid (show _ ∧ _ ∧ _ ∧ _ ∧ _ from ⟨hown, hlown, hnd, hge, hcs⟩)
        clear hown hlown hnd hge hcs hidl
        have HMV := Lib.hid hmv
        clear hmv
        have hlsk := HLS.out.1
        have hsr := HLS.out.2.2.2.2.2.2.size
        go_wp2_with (((with_reducible refine gate_dst (N := 46) rfl ?_); go_loud (refine app_value rfl (.tmp 43) (.tmp 45) rfl w.heap.size h ls _ _ HO.out.2.2.2.2 (by rw [HLS.out.1]; rfl) w4.heap.size rfl (by simp [World.setCell]) (HO.out.1 _) (HO.out.2.1 _) HO.out.2.2.1 HO.out.2.2.2.1 (by omega) (by simp [World.setCell]; omega) ?_); intro h1 w5 own5 nd5 ge5 mv5 hb5; have H5 := Lib.hid (show _ ∧ _ ∧ _ ∧ _ ∧ _ from ⟨own5, nd5, ge5, mv5, hb5⟩); clear own5 nd5 ge5 mv5 hb5))
        go_roundw
        case rel =>
          have hmk : (LT.mk (⟨kd, bb, nn, re, re, im⟩ : VS) ⟨some ⟨gt, 0, none⟩, tc⟩ tx h2 ls2).Mkd w4 := .mk (own_row H4.out.2.2.2.2.2.1).2.1 (own_row H4.out.2.2.2.2.2.1).1 H4.out.2.2.2.2.1.row H4.out.2.2.2.2.1.cap H4.out.2.2.2.2.1.all
          refine ⟨k + 1, h1, _, by omega, by go_num, rfl, by simp [hlsk], ?_, H5.out.1, H5.out.2.1, H5.out.2.2.1, fun p hp => ?_, (HLS.out.2.2.2.2.2.2.trans ((H4.out.2.2.2.2.2.2.1.setCell (p := ⟨wr.heap.size + 1, 6, none⟩) (by simp) _).mono hsr)).trans H5.out.2.2.2.2⟩
          · rw [HX.out.2.2.1, TT.maps_map, List.map_append, ← TT.maps_map, ← HLS.out.2.1, LT.pures_map, List.map_append, ← LT.pures_map]
            simp [LT.pure, TT.map, PS.all, H4.out.1]
          · rcases List.mem_append.1 hp with hp | hp
            · refine (HLS.out.2.2.2.2.2.1 p hp).move fun q hq => ?_
              have hq' := LT.ids_mem hp hq
              have h3 := HLS.out.2.2.1.lt q (List.mem_append_right _ hq')
              rw [H5.out.2.2.2.1 q (List.mem_append_left _ hq'), HMV.out q (by omega) _]
              exact H4.out.2.2.2.2.2.2.1.block q h3
            · rw [List.mem_singleton.1 hp]
              refine hmk.move fun q hq => ?_
              rw [H5.out.2.2.2.1 q (List.mem_append_right _ hq)]
              refine HMV.out q ?_ _
              rcases List.mem_cons.1 (show q ∈ gt :: (h2.ids ++ LT.idss ls2) from hq) with h3 | h3
              · omega
              · have := H4.out.2.2.2.1 _ h3
                omega
        case measure => simp [intOf]; omega
    · have hkm : k = ms.length := by omega
      have hlsk := HLS.out.1
      have hsr := HLS.out.2.2.2.2.2.2.size
      obtain ⟨i0, hi, hz0, hs7, hby⟩ := info_parts infoVal
      have HI := Lib.hid hi
      clear hi hz0 hs7 hby
      have hnd : ((h.ids ++ LT.idss ls) ++ markN.ids).Nodup := by rw [markN_ids, List.append_nil]; exact HLS.out.2.2.2.1
      have hge : ∀ q ∈ (h.ids ++ LT.idss ls) ++ markN.ids, w.heap.size ≤ q := by rw [markN_ids, List.append_nil]; exact HLS.out.2.2.2.2.1
      have HO := Lib.hid (show _ ∧ _ from ⟨hnd, hge⟩)
      clear hnd hge
      subst hkm
      go_wp2_with (((with_reducible refine gate_dst (N := 50) rfl ?_); go_loud (refine app_value rfl (.tmp 47) (.tmp 49) rfl w.heap.size h ls markN _ rfl (by rw [hlsk]; rfl) wr.heap.size rfl rfl HLS.out.2.2.1 (markN_own _ _ _) HO.out.1 HO.out.2 (by omega) hsr ?_); intro h1 w5 own5 nd5 ge5 mv5 hb5; have hle5 : ms.length + 1 ≤ h1.cap := (by have := (own_row own5.row).1; simp at this; omega); have hc2 := cutTo 28 46 Tryd.underlying28 HI.out h1.A (ls.length + 1) h1.cap ms.length ms.length rfl (by omega) (by omega); have H5 := Lib.hid (show _ ∧ _ ∧ _ ∧ _ ∧ _ from ⟨own5, nd5, ge5, mv5, hb5⟩); clear own5 nd5 ge5 mv5 hb5))
      go_ret
      have hids : LT.idss (ls ++ [markN]) = LT.idss ls := by simp [LT.idss_flat, markN_ids]
      have hr5 := H5.out.1.row
      have hA5 : w5.ownsRow 0 46 7 (.slice h1.A ls.length h1.cap) ls.length (rowCells VS.enc ls) := by
        rw [rowCells_append] at hr5
        exact own_cut (n := ls.length) (xs := rowCells VS.enc ls) hr5 (by simp) (rowCells_length VS.enc5 ls)
      refine ⟨h1, ls, by rw [hlsk]; rfl, ?_, ⟨hA5, fun p hp => H5.out.1.all p (List.mem_append_left _ hp)⟩, by rw [← hids]; exact H5.out.2.1, by rw [← hids]; exact H5.out.2.2.1, ⟨(own_row H5.out.1.row).2.1, ?_, fun p hp => ?_⟩, HLS.out.2.2.2.2.2.2.trans H5.out.2.2.2.2⟩
      · have h3 := HLS.out.2.1
        rwa [List.take_of_length_le (by rw [LT.pures_length]; exact Nat.le_refl _)] at h3
      · have := (own_row H5.out.1.row).1
        simpa using this
      · refine (HLS.out.2.2.2.2.2.1 p hp).move fun q hq => ?_
        exact H5.out.2.2.2.1 q (List.mem_append_left _ (LT.ids_mem hp hq))
theorem val_all (n : Nat) : ValAt n := by
  induction n using Nat.strongRecOn with
  | ind n ih => exact val_of n ih
end Go.Proofs.YtplfmpcoojkjlaaDoor
