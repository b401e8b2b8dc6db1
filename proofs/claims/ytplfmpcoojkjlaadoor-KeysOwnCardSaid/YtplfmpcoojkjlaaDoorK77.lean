/- The walk of placed. -/
import Derived.Test.YtplfmpcoojkjlaaDoorK75
namespace Go.Proofs.YtplfmpcoojkjlaaDoor
open Go.RowKit Go.Proofs.YtplfmpcoojkjlaaDoorW.PrintWords
def tx1 (k : Nat) : TT VS := .mk ⟨6, false, 0, 0, 0, 0⟩ [(k : Int) % 256] []
def txS (i : Nat) : List (TT VS) := (List.range i).map tx1
theorem txS_step (i : Nat) : txS (i + 1) = txS i ++ [tx1 i] := by rw [txS, txS, List.range_succ, List.map_append]; rfl
theorem txS_fit (i : Nat) : TT.alls VS.fit (txS i) := by
  refine alls_of' _ fun p hp => ?_
  obtain ⟨k, _, rfl⟩ := List.mem_map.1 hp
  exact ⟨⟨by show 0 < _; omega, by show 0 < _; omega, by show 0 < _; omega, fun x hx => by rw [List.mem_singleton.1 hx]; omega, by show _ ≤ (0 : Int); omega, by show (0 : Int) ≤ _; omega⟩, trivial⟩
/-- What values gave, and what it is in the document's words. -/
theorem val_good {w : World} {h : Hdr} {ls : List (LT VS)} {ps : List (TT PS)} (ho : OwnL VS.enc 5 46 w h ls) (hp : LT.pures ls = TT.maps PS.all ps) (hf : TT.alls PS.fits ps) : Good w h.A ls ps :=
  ⟨ho.rd.1, by rw [hp, maps_ps_all], by rw [hp]; exact TT.maps_all _ PS.all_fit _ hf⟩
theorem OwnN.set_append {gs ls : List (LT VS)} {i : Nat} {l : LT VS} (hg : gs.length = i) (hi : i < ls.length) : (gs ++ ls.drop i).set i l = (gs ++ [l]) ++ ls.drop (i + 1) := by
  rw [List.set_append, if_neg (by omega), hg, Nat.sub_self, List.drop_eq_getElem_cons hi, List.set_cons_zero, List.append_assoc]
  rfl
theorem OwnL.below'' {w w' : World} {h : Hdr} {ls : List (LT VS)} (k : OwnL VS.enc 5 46 w h ls) (hb : Below w.heap.size w w') : OwnL VS.enc 5 46 w' h ls :=
  k.move fun q hq => hb.block q (k.lt q (List.mem_append.2 hq))
/-- A node with one byte of text. -/
def txN (b i : Nat) : LT VS := .mk ⟨6, false, 0, 0, 0, 0⟩ ⟨some ⟨b, 0, none⟩, 1⟩ [(i : Int) % 256] ⟨none, 0⟩ []
theorem txN_own {w w' : World} {x : Int} {i : Nat} (hx : x = (i : Int) % 256) (hh : w'.heap[w.heap.size]? = some (.cells #[.int .u8 x] 5 (0, 0))) : (txN w.heap.size i).Own VS.enc 5 46 w' ∧ ∀ k ∈ (txN w.heap.size i).ids, w.heap.size ≤ k := by
  subst hx
  constructor
  · refine .mk ⟨rfl, .inr ⟨w.heap.size, 1, _, rfl, Nat.zero_le _, hh, Nat.le_refl _, by simp [maxLen], rfl, rfl⟩⟩ ⟨rfl, .inl ⟨rfl, rfl⟩⟩ (fun p hp => by cases hp)
  · intro k hk
    simp [txN, LT.ids, Hdr.ids, LT.idss] at hk
    omega
/-- A truth value. -/
def blN (i : Nat) : LT VS := .mk ⟨2, (i : Int).tmod 2 == 0, 0, 0, 0, 0⟩ ⟨none, 0⟩ [] ⟨none, 0⟩ []
theorem blN_fit (i : Nat) : VS.fit (blN i).s [] := ⟨by show 0 < _; omega, by show 0 < _; omega, by show 0 < _; omega, fun x hx => by simp at hx, by show _ ≤ (0 : Int); omega, by show (0 : Int) ≤ _; omega⟩
set_option maxRecDepth 100000 in
set_option maxHeartbeats 8000000 in
theorem placed_calls (w : World) (A : Option Addr) (ms : List (LT PS)) (c : Nat) (hA : RdL PS.enc w A ms) (hfm : TT.alls PS.fits (LT.pures ms)) (hw : TT.wts (LT.pures ms) ≤ 131072) (B : Option Addr) (us : List (LT PS)) (d : Nat) (hB : RdL PS.enc w B us) (hfu : TT.alls PS.fits (LT.pures us)) (hw2 : TT.wts (LT.pures us) ≤ 131072) :
    Calls Tryd.prog 33 #[.slice A ms.length c, .slice B us.length d] w fun e w' => e = .returned (.bool true) ∧ Below w.heap.size w w' := by
  have hcl := codL_len (LT.pures ms)
  have hml := TT.wts_len (LT.pures ms)
  have hul := TT.wts_len (LT.pures us)
  have HV := Lib.hid (fun (w' : World) (hb : Below w.heap.size w w') => val_all (LT.cnts ms) w' A c ms (Nat.le_refl _) (hA.below hb) (by omega))
  have HU := Lib.hid (fun (w' : World) (hb : Below w.heap.size w w') => val_all (LT.cnts us) w' B d us (Nat.le_refl _) (hB.below hb) (by omega))
  have H0 := Lib.hid (show (codL (LT.pures ms)).length ≤ 1099511627775 ∧ (LT.pures ms).length ≤ 131072 ∧ (LT.pures us).length ≤ 131072 ∧ _ ∧ _ from ⟨by omega, by omega, by omega, hfm, hfu⟩)
  clear hA hfm hw hB hfu hw2 hcl hml hul
  go_enter Tryd.func33, Tryd.ntmps33
  go_wp2_with fail
  refine (HV.out w (Below.refl _ _)).mono ?_
  rintro e w1 ⟨⟨A1, c1⟩, ls, rfl, hp1, ho1, _, hge1, _, hb1⟩
  have hl1 : ls.length ≤ 131072 := by
    have h := congrArg List.length hp1
    rw [LT.pures_length, TT.maps_length] at h
    have := H0.out.2.1
    omega
  have H1 := Lib.hid (show _ ∧ _ ∧ _ ∧ _ ∧ _ from ⟨hl1, hp1, ho1, hge1, hb1⟩)
  clear hl1 hp1 ho1 hge1 hb1
  go_wp2_with fail
  refine (HU.out w1 H1.out.2.2.2.2).mono ?_
  rintro e w2 ⟨⟨A2, c2⟩, us1, rfl, hp2, ho2, _, hge2, _, hb2⟩
  have hl2 : us1.length ≤ 131072 := by
    have h := congrArg List.length hp2
    rw [LT.pures_length, TT.maps_length] at h
    have := H0.out.2.2.1
    omega
  have H2 := Lib.hid (show _ ∧ _ ∧ _ ∧ _ ∧ _ ∧ _ from ⟨hl2, hp2, ho2, hge2, H1.out.2.2.2.2.trans (hb2.mono H1.out.2.2.2.2.size), OwnL.below'' H1.out.2.2.1 hb2⟩)
  have hlt1 : w1.heap.size ≤ w2.heap.size := hb2.size
  have hcm := cmp_any (val_good H2.out.2.2.2.2.2 H1.out.2.1 H0.out.2.2.2.1) (val_good H2.out.2.2.1 H2.out.2.1 H0.out.2.2.2.2) c1 c2 w2 (Below.refl _ _) (Below.refl _ _)
  have HC := Lib.hid hcm
  have H12 := Lib.hid hlt1
  clear hl2 hp2 ho2 hge2 hb2 hcm hlt1
  go_wp2_with fail
  refine HC.out.mono ?_
  rintro e w3 ⟨rfl, hb3⟩
  have H3 := Lib.hid (show _ ∧ _ ∧ _ ∧ _ from ⟨OwnL.below'' H2.out.2.2.2.2.2 hb3, OwnL.below'' H2.out.2.2.1 hb3, H2.out.2.2.2.2.1.trans (hb3.mono H2.out.2.2.2.2.1.size), hb3.size⟩)
  clear hb3 HC
  go_wp2
  go_loopw [7] (fun vi wr => ∃ (i : Nat) (gs : List (LT VS)), i ≤ ls.length ∧ vi = .int .i64 i ∧ gs.length = i ∧ LT.pures gs = txS i ∧ OwnN wr w.heap.size (.slice A1 ls.length c1) (gs ++ ls.drop i) ∧ (∀ p ∈ gs, p.Own VS.enc 5 46 wr ∧ ∀ k ∈ p.ids, w2.heap.size ≤ k) ∧ OwnL VS.enc 5 46 wr ⟨A2, c2⟩ us1 ∧ Below w.heap.size w wr ∧ w2.heap.size ≤ wr.heap.size) (fun vi _ => ls.length - (intOf vi).toNat)
  case atStart => exact ⟨0, [], by omega, rfl, rfl, rfl, own_rebase H3.out.1.row fun k hk => H1.out.2.2.2.1 k (List.mem_append_left _ (Hdr.own_ids _ _ hk)), (fun p hp => by cases hp), H3.out.2.1, H3.out.2.2.1, H3.out.2.2.2⟩
  case round =>
    obtain ⟨i, gs, hi, rfl, hgl, hgp, ho, hgs, hu, hb, hsz⟩ := hrel
    have HW := Lib.hid (show _ ∧ _ ∧ _ ∧ _ ∧ _ ∧ _ ∧ _ from ⟨hgl, hgp, ho, hgs, hu, hb, hsz⟩)
    clear hgl hgp ho hgs hu hb hsz
    by_cases hlt : i < ls.length
    · have hil : (i : Int) < (ls.length : Int) := by omega
      have hil2 : i ≤ 131072 := by have := H1.out.1; omega
      have hcut : (gs ++ ls.drop i).length = ls.length := by rw [List.length_append, HW.out.1, List.length_drop]; omega
      obtain ⟨rfl, h0⟩ | ⟨g, rfl, hx⟩ := own_first (show World.ownsRow wr w.heap.size 46 7 (.slice A1 ls.length c1) _ _ from HW.out.2.2.1)
      · omega
      have hg1 : g < w1.heap.size := own_lt H1.out.2.2.1.row g rfl
      have HO := Lib.hid (show _ ∧ _ ∧ _ ∧ _ from ⟨hcut, hlt, hg1, (show ∀ O, OwnN (wr.alloc O) w.heap.size (.slice (some ⟨g, 0, none⟩) ls.length c1) (gs ++ ls.drop i) from fun O => ownsRow_move HW.out.2.2.1 fun k hk => heap_alloc_old wr O (own_lt HW.out.2.2.1 k hk))⟩)
      clear hcut hx hg1
      go_wp2_with (((with_reducible refine gate_store (p := 47) rfl ?_); go_loud (refine store_node rfl rfl (.tmp 47) (.tmp 46) rfl i (txN wr.heap.size i) rfl rfl (ls := gs ++ ls.drop i) (c := c1) (by rw [HO.out.1]; exact HO.out.2.2.2 _) (by rw [HO.out.1]; exact HO.out.2.1) ?_); intro w4 ho4 hb4 hf4; have H4 := Lib.hid (show _ ∧ _ ∧ _ from ⟨ho4, hb4, hf4⟩); clear ho4 hb4 hf4))
      go_roundw
      case rel =>
        have hal : ∀ (O : Obj) (q : Nat), q < wr.heap.size → (wr.alloc O).heap[q]? = wr.heap[q]? := fun O q hq => heap_alloc_old wr O hq
        have hmv : ∀ q, q < wr.heap.size → q ≠ g → w4.heap[q]? = wr.heap[q]? := fun q hq hne => (H4.out.2.2 q hne).trans (hal _ q hq)
        have hsz := HW.out.2.2.2.2.2.2
        have h12 := H12.out
        have hg1 := HO.out.2.2.1
        have hnew := txN_own (w := wr) (w' := w4) (i := i) rfl ((H4.out.2.2 wr.heap.size (by omega)).trans (heap_alloc_new wr _))
        refine ⟨i + 1, gs ++ [txN wr.heap.size i], by omega, by go_num, by rw [List.length_append, HW.out.1]; rfl, ?_, ?_, fun p hp => ?_, ?_, ?_, ?_⟩
        · rw [LT.pures_map, List.map_append, ← LT.pures_map, HW.out.2.1, txS_step]
          rfl
        · have h := H4.out.1
          rw [OwnN.set_append HW.out.1 HO.out.2.1, HO.out.1] at h
          exact h
        · rcases List.mem_append.1 hp with hp | hp
          · obtain ⟨h1, h2⟩ := HW.out.2.2.2.1 p hp
            exact ⟨h1.move fun k hk => hmv k (h1.lt k hk) (by have := h2 k hk; omega), h2⟩
          · rw [List.mem_singleton.1 hp]
            exact ⟨hnew.1, fun k hk => Nat.le_trans hsz (hnew.2 k hk)⟩
        · exact HW.out.2.2.2.2.1.move fun k hk => hmv k (HW.out.2.2.2.2.1.lt k (List.mem_append.2 hk)) (by have := H2.out.2.2.2.1 k (List.mem_append.2 hk); omega)
        · exact (HW.out.2.2.2.2.2.1.alloc (by have := HW.out.2.2.2.2.2.1.size; omega) _).trans H4.out.2.1
        · have := H4.out.2.1.size
          simp at this
          omega
      case measure => simp [intOf]; omega
    · obtain rfl : i = ls.length := by omega
      have ho := HW.out.2.2.1
      have hgl := HW.out.1
      rw [List.drop_length, List.append_nil] at ho
      rw [← hgl] at ho
      have hog : OwnL VS.enc 5 46 wr ⟨A1, c1⟩ gs := ⟨own_zero ho, fun p hp => (HW.out.2.2.2.1 p hp).1⟩
      have hgg : Good wr A1 gs (TT.maps VS.ps (txS gs.length)) := ⟨hog.rd.1, by rw [HW.out.2.1, hgl], by rw [HW.out.2.1]; exact txS_fit _⟩
      have hgu := val_good HW.out.2.2.2.2.1 H2.out.2.1 H0.out.2.2.2.2
      have hcm := cmp_any hgg hgu c1 c2 wr (Below.refl _ _) (Below.refl _ _)
      have hsz := HW.out.2.2.2.2.2.2
      have hid1 : ∀ k ∈ Hdr.ids ⟨A1, c1⟩ ++ LT.idss gs, k < w1.heap.size ∨ w2.heap.size ≤ k := by
        intro k hk
        rcases List.mem_append.1 hk with hk | hk
        · exact .inl (H1.out.2.2.1.lt k (List.mem_append_left _ hk))
        · rw [LT.idss_flat] at hk
          obtain ⟨p, hp, hk⟩ := List.mem_flatMap.1 hk
          exact .inr ((HW.out.2.2.2.1 p hp).2 k hk)
      have HG := Lib.hid (show _ ∧ _ ∧ _ ∧ _ ∧ _ ∧ _ from ⟨hog, hgg, hgu, hid1, HW.out.2.2.2.2.1, HW.out.2.2.2.2.2.1⟩)
      have hgle : gs.length ≤ 131072 := by have := H1.out.1; omega
      have HL := Lib.hid hgle
      rw [← hgl]
      have HC := Lib.hid hcm
      generalize TT.maps VS.ps (txS gs.length) = ps at *
      have HN := Lib.hid (show _ ∧ _ from ⟨hsz, hgl⟩)
      clear hcm hgle hsz hid1 hgu hgg hog hgl ho HW hlt hi
      go_wp2_with fail
      refine HC.out.mono ?_
      rintro e w4 ⟨rfl, hb4⟩
      have hb4' := HG.out.2.2.2.2.2.trans (hb4.mono HG.out.2.2.2.2.2.size)
      have H4 := Lib.hid (show _ ∧ _ ∧ _ from ⟨hb4, hb4', HG.out.2.1.rd.row.below hb4⟩)
      clear hb4 hb4' HC
      go_wp2_with (((with_reducible refine gate_dst (N := 57) rfl ?_); go_loud (refine copy_nodes rfl (.tmp 55) (.tmp 56) rfl A1 c1 gs rfl rfl H4.out.2.2 (by have := HL.out; omega) ?_); intro A5 c5 w5 ho5 hb5; have H5 := Lib.hid (show _ ∧ _ ∧ _ ∧ _ from ⟨ho5, hb5, H4.out.2.1.trans (hb5.mono H4.out.2.1.size), HG.out.2.1.copy (H4.out.1.trans (hb5.mono H4.out.1.size)) ho5.view.1⟩); clear ho5 hb5))
      refine (HU.out w5 H5.out.2.2.1).mono ?_
      rintro e w6 ⟨⟨A6, c6⟩, us6, rfl, hp6, ho6, _, _, _, hb6⟩
      have hcm := cmp_any H5.out.2.2.2 (val_good ho6 hp6 H0.out.2.2.2.2) c5 c6 w6 hb6 (Below.refl _ _)
      have HC := Lib.hid hcm
      have h46 := H5.out.2.1.trans (hb6.mono H5.out.2.1.size)
      have H6 := Lib.hid (show _ ∧ _ from ⟨H4.out.1.trans (h46.mono H4.out.1.size), H5.out.2.2.1.trans (hb6.mono H5.out.2.2.1.size)⟩)
      clear hp6 ho6 hb6 hcm h46
      go_wp2_with fail
      refine HC.out.mono ?_
      rintro e w7 ⟨rfl, hb7⟩
      have h7 := H6.out.1.trans (hb7.mono H6.out.1.size)
      have hcm := cmp_any HG.out.2.1 HG.out.2.2.1 c1 c2 w7 h7 h7
      have HC2 := Lib.hid hcm
      have H7 := Lib.hid (show _ ∧ _ from ⟨h7, H6.out.2.trans (hb7.mono H6.out.2.size)⟩)
      clear hb7 h7 hcm HC
      go_wp2_with fail
      refine HC2.out.mono ?_
      rintro e w8 ⟨rfl, hb8⟩
      have h8 := H7.out.1.trans (hb8.mono H7.out.1.size)
      have H8 := Lib.hid (show _ ∧ _ ∧ _ ∧ _ from ⟨h8, H7.out.2.trans (hb8.mono H7.out.2.size), OwnL.below'' HG.out.1 h8, OwnL.below'' HG.out.2.2.2.2.1 h8⟩)
      clear hb8 h8 HC2
      go_wp2
      go_loopw [12] (fun vi wr => ∃ i : Nat, i ≤ us1.length ∧ vi = .int .i64 i ∧ OwnN wr w1.heap.size (.slice A2 us1.length c2) (fill (fun _ => lfN 1 0) i ++ us1.drop i) ∧ OwnL VS.enc 5 46 wr ⟨A1, c1⟩ gs ∧ Below w.heap.size w wr) (fun vi _ => us1.length - (intOf vi).toNat)
      case atStart => exact ⟨0, by omega, rfl, own_rebase H8.out.2.2.2.row fun k hk => H2.out.2.2.2.1 k (List.mem_append_left _ (Hdr.own_ids _ _ hk)), H8.out.2.2.1, H8.out.2.1⟩
      case round =>
        obtain ⟨i, hi, rfl, ho, hog, hb⟩ := hrel
        have HW := Lib.hid (show _ ∧ _ ∧ _ from ⟨ho, hog, hb⟩)
        clear ho hb hog
        by_cases hlt : i < us1.length
        · have hil : (i : Int) < (us1.length : Int) := by omega
          have hil2 : i ≤ 131072 := by have := H2.out.1; omega
          have hcut := fill_cut (fun _ => lfN 1 0) i us1 (by omega)
          obtain ⟨rfl, h0⟩ | ⟨g, rfl, hx⟩ := own_first (show World.ownsRow wr w1.heap.size 46 7 (.slice A2 us1.length c2) _ _ from HW.out.1)
          · omega
          have hg2 : g < w2.heap.size := own_lt H2.out.2.2.1.row g rfl
          have HO := Lib.hid (show _ ∧ _ ∧ _ ∧ _ from ⟨hcut, hlt, hg2, hx.2.1⟩)
          clear hcut hx hg2
          go_wp2_with (((with_reducible refine gate_store (p := 78) rfl ?_); go_loud (refine store_node rfl rfl (.tmp 78) (.tmp 77) rfl i (lfN 1 0) rfl rfl (ls := fill (fun _ => lfN 1 0) i ++ us1.drop i) (c := c2) (by rw [HO.out.1]; exact HW.out.1) (by rw [HO.out.1]; exact HO.out.2.1) ?_); intro w9 ho9 hb9 hf9; have H9 := Lib.hid (show _ ∧ _ ∧ _ from ⟨ho9, hb9, hf9⟩); clear ho9 hb9 hf9))
          go_roundw
          case rel =>
            refine ⟨i + 1, by omega, by go_num, ?_, HW.out.2.1.move fun k hk => H9.out.2.2 k (fun e => ?_), HW.out.2.2.trans (H9.out.2.1.mono H1.out.2.2.2.2.size)⟩
            · have h := H9.out.1
              rw [HO.out.1, fill_step (fun _ => lfN 1 0) i us1 HO.out.2.1] at h
              exact h
            · have h1 := HG.out.2.2.2.1 k (List.mem_append.2 hk)
              have h2 := HO.out.2.2.1
              have h3 := HO.out.2.2.2
              omega
          case measure => simp [intOf]; omega
        · obtain rfl : i = us1.length := by omega
          have ho := HW.out.1
          rw [List.drop_length, List.append_nil] at ho
          have hr := ho.view.1
          obtain ⟨hgu, hwt⟩ := good_fill hr (by have := H2.out.1; omega) (fun i hi => ⟨rfl, rfl, lfN_fit _ _ (by omega) (by omega)⟩)
          have hfl := fill_len (fun _ => lfN 1 0) us1.length
          generalize hqs : TT.maps VS.ps (LT.pures (fill (fun _ => lfN 1 0) us1.length)) = qs at *
          clear hqs hwt
          generalize fill (fun _ => lfN 1 0) us1.length = fs at *
          have hgg : Good wr A1 gs ps := ⟨HW.out.2.1.rd.1, HG.out.2.1.eq, HG.out.2.1.fit⟩
          have hcm := cmp_any hgg hgu c1 c2 wr (Below.refl _ _) (Below.refl _ _)
          rw [← hfl]
          have HC := Lib.hid hcm
          have HF := Lib.hid (show _ ∧ _ ∧ fs.length ≤ 131072 from ⟨hgg, hgu, by have := H2.out.1; omega⟩)
          have HB := Lib.hid HW.out.2.2
          clear hcm hgg hgu hfl hr ho HW hlt hi
          go_wp2_with fail
          refine HC.out.mono ?_
          rintro e w9 ⟨rfl, hb9⟩
          have H9 := Lib.hid (show _ ∧ _ ∧ _ from ⟨hb9, HB.out.trans (hb9.mono HB.out.size), HF.out.1.rd.row.below hb9⟩)
          clear hb9 HC
          go_wp2_with (first | ((with_reducible refine gate_dst (N := 88) rfl ?_); go_loud (refine copy_nodes rfl (.tmp 86) (.tmp 87) rfl A1 c1 gs rfl rfl H9.out.2.2 (by have := HL.out; omega) ?_); intro A10 c10 w10 ho10 hb10; have H10 := Lib.hid (show _ ∧ _ ∧ _ from ⟨H9.out.1.trans (hb10.mono H9.out.1.size), H9.out.2.1.trans (hb10.mono H9.out.2.1.size), HF.out.1.copy (H9.out.1.trans (hb10.mono H9.out.1.size)) ho10.view.1⟩); clear ho10 hb10; have H10r := Lib.hid (HF.out.2.1.rd.row.below H10.out.1)) | ((with_reducible refine gate_dst (N := 91) rfl ?_); go_loud (refine copy_nodes rfl (.tmp 89) (.tmp 90) rfl A2 c2 fs rfl rfl H10r.out (by have := HF.out.2.2; omega) ?_); intro A11 c11 w11 ho11 hb11; have H11 := Lib.hid (show _ ∧ _ ∧ _ ∧ _ from ⟨H10.out.1.trans (hb11.mono H10.out.1.size), H10.out.2.1.trans (hb11.mono H10.out.2.1.size), HF.out.2.1.copy (H10.out.1.trans (hb11.mono H10.out.1.size)) ho11.view.1, H10.out.2.2.below hb11⟩); clear ho11 hb11))
          have hcm := cmp_any H11.out.2.2.2 H11.out.2.2.1 c10 c11 w11 (Below.refl _ _) (Below.refl _ _)
          have HC := Lib.hid hcm
          clear hcm
          refine HC.out.mono ?_
          rintro e w12 ⟨rfl, hb12⟩
          have H12' := Lib.hid (H11.out.2.1.trans (hb12.mono H11.out.2.1.size))
          clear hb12 HC
          go_wp2_with fail
          refine (HV.out w12 H12'.out).mono ?_
          rintro e w13 ⟨⟨A13, c13⟩, l13, rfl, hp13, ho13, _, hge13, _, hb13⟩
          have hl13 : l13.length ≤ 131072 := by
            have h := congrArg List.length hp13
            rw [LT.pures_length, TT.maps_length] at h
            have := H0.out.2.1
            omega
          have hsp := span_any (val_good ho13 hp13 H0.out.2.2.2.1) H0.out.1 c13 w13 (Below.refl _ _)
          unfold SpanPost at hsp
          have HSP := Lib.hid hsp
          have hon : OwnN w13 w12.heap.size (.slice A13 l13.length c13) l13 := own_rebase ho13.row fun k hk => hge13 k (List.mem_append_left _ (Hdr.own_ids _ _ hk))
          have H13 := Lib.hid (show _ ∧ _ ∧ _ from ⟨hl13, hon, H12'.out.trans (hb13.mono H12'.out.size)⟩)
          clear hp13 ho13 hge13 hl13 hsp hon hb13
          go_wp2_with fail
          refine HSP.out.mono ?_
          rintro e w14 ⟨A14, c14, B14, d14, rfl, _, _, _, hb14⟩
          have hon : OwnN w14 w12.heap.size (.slice A13 l13.length c13) l13 := ownsRow_move H13.out.2.1 fun k hk => hb14.block k (own_lt H13.out.2.1 k hk)
          have H14 := Lib.hid (show _ ∧ _ from ⟨hon, H13.out.2.2.trans (hb14.mono H13.out.2.2.size)⟩)
          clear hon hb14 HSP
          go_wp2
          go_loopw [18] (fun vi wr => ∃ i : Nat, i ≤ l13.length ∧ vi = .int .i64 i ∧ OwnN wr w12.heap.size (.slice A13 l13.length c13) (fill blN i ++ l13.drop i) ∧ Below w.heap.size w wr) (fun vi _ => l13.length - (intOf vi).toNat)
          case atStart => exact ⟨0, by omega, rfl, H14.out.1, H14.out.2⟩
          case round =>
            obtain ⟨i, hi, rfl, ho, hb⟩ := hrel
            have HW := Lib.hid (show _ ∧ _ from ⟨ho, hb⟩)
            clear ho hb
            by_cases hlt : i < l13.length
            · have hil : (i : Int) < (l13.length : Int) := by omega
              have hil2 : i ≤ 131072 := by have := H13.out.1; omega
              have hcut := fill_cut blN i l13 (by omega)
              obtain ⟨rfl, h0⟩ | ⟨g, rfl, hx⟩ := own_first (show World.ownsRow wr w12.heap.size 46 7 (.slice A13 l13.length c13) _ _ from HW.out.1)
              · omega
              have HO := Lib.hid (show _ ∧ _ from ⟨hcut, hlt⟩)
              clear hcut hx
              go_wp2_with (((with_reducible refine gate_store (p := 133) rfl ?_); go_loud (refine store_node rfl rfl (.tmp 133) (.tmp 132) rfl i (blN i) rfl (by first | rfl | (unfold blN; rfl)) (ls := fill blN i ++ l13.drop i) (c := c13) (by rw [HO.out.1]; exact HW.out.1) (by rw [HO.out.1]; exact HO.out.2) ?_); intro w15 ho15 hb15 _; have H15 := Lib.hid (show _ ∧ _ from ⟨ho15, hb15⟩); clear ho15 hb15))
              go_roundw
              case rel =>
                refine ⟨i + 1, by omega, by go_num, ?_, HW.out.2.trans (H15.out.2.mono H12'.out.size)⟩
                have h := H15.out.1
                rw [HO.out.1, fill_step blN i l13 HO.out.2] at h
                exact h
              case measure => simp [intOf]; omega
            · obtain rfl : i = l13.length := by omega
              have ho := HW.out.1
              rw [List.drop_length, List.append_nil] at ho
              obtain ⟨hgf, hwt⟩ := good_fill ho.view.1 (by have := H13.out.1; omega) (fun i hi => ⟨rfl, rfl, blN_fit i⟩)
              have hcl := codL_len (TT.maps VS.ps (LT.pures (fill blN l13.length)))
              have hfl := fill_len blN l13.length
              have hll := H13.out.1
              generalize hqs : TT.maps VS.ps (LT.pures (fill blN l13.length)) = rs at *
              clear hqs
              generalize fill blN l13.length = bs at *
              rw [← hfl]
              have hrl : (codL rs).length ≤ 1099511627775 := by omega
              have hsp := span_any hgf hrl c13 wr (Below.refl _ _)
              unfold SpanPost at hsp
              have HSP := Lib.hid hsp
              have HF2 := Lib.hid (show _ ∧ _ ∧ bs.length ≤ 131072 from ⟨hgf, hrl, by omega⟩)
              have HB2 := Lib.hid HW.out.2
              clear HW hsp hgf hrl hwt hcl hfl hll ho hlt hi
              go_wp2_with fail
              refine HSP.out.mono ?_
              rintro e w16 ⟨A16, c16, B16, d16, rfl, hof, hot, _, hb16⟩
              have H16 := Lib.hid (show _ ∧ _ ∧ _ ∧ _ ∧ _ from ⟨own_row hof, own_row hot, hb16, HB2.out.trans (hb16.mono HB2.out.size), HF2.out.1.rd.row.below hb16⟩)
              clear hof hot hb16 HSP
              go_wp2_with (((with_reducible refine gate_dst (N := 143) rfl ?_); go_loud (refine copy_nodes rfl (.tmp 141) (.tmp 142) rfl A13 c13 bs rfl rfl H16.out.2.2.2.2 (by have := HF2.out.2.2; omega) ?_); intro A17 c17 w17 ho17 hb17; have H17 := Lib.hid (show _ ∧ _ ∧ _ from ⟨hb17, H16.out.2.2.2.1.trans (hb17.mono H16.out.2.2.2.1.size), HF2.out.1.copy (H16.out.2.2.1.trans (hb17.mono H16.out.2.2.1.size)) ho17.view.1⟩); clear ho17 hb17))
              have hsp := span_any H17.out.2.2 HF2.out.2.1 c17 w17 (Below.refl _ _)
              unfold SpanPost at hsp
              have HSP := Lib.hid hsp
              clear hsp
              refine HSP.out.mono ?_
              rintro e w18 ⟨A18, c18, B18, d18, rfl, hof, hot, _, hb18⟩
              have h1618 := H17.out.1.trans (hb18.mono H17.out.1.size)
              have hs1 := same_calls w18 A16 A18 (encS rs) (encS rs) c16 c18 (H16.out.1.2.1.below h1618) (own_row hof).2.1 (own_row hof).2.2
              have hs2 : ∀ w', Drawn0 w18 w' → _ := fun w' hd => same_calls w' B16 B18 (spanS rs) (spanS rs) d16 d18 ((H16.out.2.1.2.1.below h1618).below hd.below) ((own_row hot).2.1.below hd.below) (own_row hot).2.2
              rw [decide_eq_true rfl] at hs1
              simp only [decide_true] at hs2
              have H18 := Lib.hid (show _ ∧ _ ∧ _ from ⟨hs1, hs2, H17.out.2.1.trans (hb18.mono H17.out.2.1.size)⟩)
              clear hof hot hb18 h1618 hs1 hs2 HSP
              go_wp2_with fail
              refine H18.out.1.mono ?_
              rintro e w19 ⟨rfl, hd19⟩
              have HD := Lib.hid hd19
              clear hd19
              go_wp2_with fail
              refine (H18.out.2.1 _ HD.out).mono ?_
              rintro e w20 ⟨rfl, hd20⟩
              have HD2 := Lib.hid hd20
              clear hd20
              go_wp2
              go_ret
              exact ⟨rfl, (H18.out.2.2.trans (HD.out.below.mono H18.out.2.2.size)).trans (HD2.out.below.mono (by have := H18.out.2.2.size; have := HD.out.below.size; omega))⟩
end Go.Proofs.YtplfmpcoojkjlaaDoor
