/- An empty table's form. -/
import Derived.Test.YtokflmiijdpchaaGreatD27
namespace Go.Proofs.YtokflmiijdpchaaGreat
open Go.RowKit
def b0 : Value := .int .u8 0
theorem after_range (w : World) (A : Obj) (r : Loop) (m : Nat) (o : Obj) : (((((w.alloc A).alloc (.deferred (some []))).alloc (.loop r)).drewN m).heap[(w.alloc A).heap.size + 1]? = some (.loop r)) ∧
    Below w.heap.size w (((((w.alloc A).alloc (.deferred (some []))).alloc (.loop r)).drewN m).putObj ((w.alloc A).heap.size + 1) o) ∧ (((((w.alloc A).alloc (.deferred (some []))).alloc (.loop r)).drewN m).putObj ((w.alloc A).heap.size + 1) o).heap[(w.alloc A).heap.size]? = some (.deferred (some [])) := by
  have h1 : (((w.alloc A).alloc (.deferred (some []))).alloc (.loop r)).heap[(w.alloc A).heap.size + 1]? = some (.loop r) := by simpa using heap_alloc_new ((w.alloc A).alloc (.deferred (some []))) (.loop r)
  have h2 : (((w.alloc A).alloc (.deferred (some []))).alloc (.loop r)).heap[(w.alloc A).heap.size]? = some (.deferred (some [])) := (heap_alloc_old _ _ (by simp)).trans (heap_alloc_new (w.alloc A) _)
  refine ⟨h1, ?_, (World.putObj_heap_other (by omega)).trans h2⟩
  have hb : Below w.heap.size w ((((w.alloc A).alloc (.deferred (some []))).alloc (.loop r)).drewN m) := ((((Below.refl _ _).alloc (Nat.le_refl _) _).alloc (by simp) _).alloc (by simp; omega) _).trans ((below_dn _ m).mono (by simp; omega))
  exact hb.trans ⟨rfl, rfl, rfl, by simp [World.putObj], fun k hk => World.putObj_heap_other (by simp; omega)⟩
set_option maxRecDepth 100000 in
set_option maxHeartbeats 4000000 in
theorem tbytes_calls (w : World) (t : Nat) (h : Tb w t) : Calls Tryz.prog 164 #[.pointer (some ⟨t, 0, none⟩)] w fun e w' => ∃ g, e = .returned (.slice (some ⟨g, 0, none⟩) 2 2) ∧ w'.rangeAt g 0 [b0, b0] ∧ Below w.heap.size w w' ∧ w.heap.size ≤ g ∧ g < w'.heap.size := by
  have HT := Lib.hid h
  have htl := (Array.getElem?_eq_some_iff.1 h).1
  clear h
  have hst : ∀ {W : World}, Below w.heap.size w W → Tb W t := fun hb => (hb.block t htl).trans HT.out
  have T1 := trivial
  refine (callsIn_wide (n := 9)).1 (callsIn_of_wp_marks Tryz.func164 rfl trivial (wpIn_wide.2 ?_) rfl)
  simp only [Tryz.ntmps164, List.size_toArray, List.length_cons, List.length_nil, Nat.reduceAdd, Nat.reduceSub, Array.replicate_succ, Array.replicate_zero, List.push_toArray, List.append_toArray, List.nil_append, List.cons_append]
  go_wp2_with (first
    | (go_at_call 196; refine (tsize_calls _ t HT.out).mono ?_; rintro e w1 ⟨rfl, hb1⟩; have H1 := Lib.hid hb1; clear hb1)
    | (go_at_call 137; refine (pnew_calls _ 2).mono ?_; rintro e w2 ⟨rfl, hw2, hb2⟩; have H2 := Lib.hid (show _ ∧ _ from ⟨hw2, H1.out.trans (hb2.mono H1.out.size)⟩); have hs2 := hb2.size; have hl2 : w1.heap.size < w2.heap.size := (Array.getElem?_eq_some_iff.1 hw2.1.choose_spec.1).1; have hs1 := H1.out.size; clear hw2 hb2))
  have hab : ∀ (W : World) (o : Obj), Below W.heap.size W (W.alloc o) := fun W o => (Below.refl _ _).alloc (Nat.le_refl _) _
  obtain ⟨b, hb⟩ : ∃ b, b = w1.heap.size := ⟨_, rfl⟩
  obtain ⟨B, hB⟩ : ∃ B, B = w2.heap.size := ⟨_, rfl⟩
  obtain ⟨W3, hW3⟩ : ∃ W3, W3 = w2.alloc (.cells #[.pointer (some ⟨w1.heap.size, 0, none⟩)] 232) := ⟨_, rfl⟩
  have hwr : Wr W3 b 2 [] (fun q => q < b ∨ q = B) := by
    rw [hW3, hb, hB]
    exact (H2.out.1.more (hab _ _)).mono fun q hq => hq.imp id (fun e => by subst e; simp)
  have hc : W3.heap[B]? = some (.cells #[.pointer (some ⟨b, 0, none⟩)] 232 (0, 0)) := by
    rw [hW3, hb, hB]
    exact heap_alloc_new w2 _
  have hbw : Below w.heap.size w W3 := by
    rw [hW3]
    exact H2.out.2.trans ((hab _ _).mono (by omega))
  have htb : t < b := by omega
  have hbb : b < B := by omega
  have hwb : w.heap.size ≤ b := by omega
  rw [← hW3, ← hb, ← hB]
  clear hW3 hb hB
  have H3 := Lib.hid (show _ ∧ _ ∧ _ from ⟨hwr, hc, hbw⟩)
  have hk : ∀ W, Kp (fun q => q < b ∨ q = B) W3 W → W.cell? ⟨B, 0, none⟩ = some (.pointer (some ⟨b, 0, none⟩)) ∧ W.cell? ⟨t, 1, none⟩ = some (.int .i64 0) ∧ W.cell? ⟨t, 0, none⟩ = some (.pointer none) := fun W hk => by
    have h1 := (hk.block B (.inr rfl)).trans H3.out.2.1
    have h2 := (hk.block t (.inl htb)).trans (hst H3.out.2.2)
    exact ⟨(cellD h1 0).1, (cellD h2 1).1, (cellD h2 0).1⟩
  have HK := Lib.hid hk
  obtain ⟨d0, d1, d2⟩ := hk W3 (Kp.refl _ _)
  clear hwr hc hbw hk
  go_region_held3 (fun W => W.cell? ⟨B, 0, none⟩ = some (.pointer (some ⟨b, 0, none⟩)) ∧ W.cell? ⟨t, 1, none⟩ = some (.int .i64 0)) (first | go_keep | exact ⟨e0, e1⟩) ((go_at_call 219; refine (num_calls W3.drew b 2 [] _ (H3.out.1.below (Below.refl _ _).drew) (by decide) 0 (by decide) (by decide)).mono ?_; rintro e w4 ⟨rfl, hw4, kp4⟩; obtain ⟨e0, e1, e2⟩ := HK.out w4 ((Kp.refl _ W3).drew.trans kp4); have H4 := Lib.hid (show _ ∧ _ from ⟨hw4, (Kp.refl _ W3).drew.trans kp4⟩); clear hw4 kp4))
  go_upto_region 5 with (fail)
  go_region_held3 (fun W => W.cell? ⟨B, 0, none⟩ = some (.pointer (some ⟨b, 0, none⟩)) ∧ W.cell? ⟨t, 0, none⟩ = some (.pointer none)) (first | go_keep | exact ⟨f0, f2⟩) (first
    | (go_at_call 225; refine (tlen_nil _).mono ?_; rintro e w' ⟨rfl, hw⟩; obtain rfl := hw.symm)
    | (go_at_call 219; refine (num_calls w4.drew b 2 _ _ (H4.out.1.below (Below.refl _ _).drew) (by decide) 0 (by decide) (by decide)).mono ?_; rintro e w5 ⟨rfl, hw5, kp5⟩; obtain ⟨f0, f1, f2⟩ := HK.out w5 (H4.out.2.trans ((Kp.refl _ w4).drew.trans kp5)); have H5 := Lib.hid (show _ ∧ _ from ⟨hw5, H4.out.2.trans ((Kp.refl _ w4).drew.trans kp5)⟩); clear hw5 kp5))
  go_wp2_with (first
    | (go_at_call 152; refine (all_calls _).mono ?_; rintro e w' ⟨rfl, rfl⟩))
  refine wp_rangeFunc_wide (gf := 217) (lb := #[.pointer (some ⟨w5.heap.size, 0, none⟩)]) rfl (enters_of Tryz.func217 (by kernel_rfl) rfl) ?_
  intro fn
  generalize LRec fn _ _ _ _ _ = rec
  refine (all1_calls _ _ w5.heap.size ?_).mono ?_
  · have hA : (((w5.alloc (.cells #[.pointer none] 240)).alloc (.deferred (some []))).alloc (.loop rec)).heap[w5.heap.size]? = some (.cells #[.pointer none] 240 (0, 0)) := (heap_alloc_old _ _ (by simp; omega)).trans ((heap_alloc_old _ _ (by simp)).trans (heap_alloc_new w5 _))
    exact (cellD hA 0).1
  · rintro e W ⟨hv, m, rfl⟩
    obtain ⟨r1, -, -⟩ := after_range w5 (.cells #[.pointer none] 240) rec m (.loop rec)
    refine ⟨hv, r1, ?_⟩
    obtain ⟨Z, hZ⟩ : ∃ Z, Z = ((((w5.alloc (.cells #[.pointer none] 240)).alloc (.deferred (some []))).alloc (.loop rec)).drewN m).putObj ((w5.alloc (.cells #[.pointer none] 240)).heap.size + 1) (.loop { rec with state := .exhausted }) := ⟨_, rfl⟩
    have hZb : Below w5.heap.size w5 Z ∧ Z.heap[w5.heap.size + 1]? = some (.deferred (some [])) := by
      rw [hZ]
      have := (after_range w5 (.cells #[.pointer none] 240) rec m (.loop { rec with state := .exhausted })).2
      refine ⟨this.1, ?_⟩
      simpa using this.2
    rw [← hZ]
    clear hZ r1
    have hzk := H5.out.2.trans (Kp.of_below hZb.1 fun q hq => H5.out.1.lt hq)
    obtain ⟨g0, g1, g2⟩ := HK.out Z hzk
    have HZ := Lib.hid (show _ ∧ _ ∧ _ from ⟨H5.out.1.below hZb.1, hzk, hZb.2⟩)
    have hsz := hZb.1.size
    have hsz5 := H5.out.2.size
    clear hZb hzk
    have hbz : Below w.heap.size w Z := H3.out.2.2.trans (((HZ.out.2.1.mono fun q (hq : q < w.heap.size) => .inl (by omega)).to_below))
    have HBZ := Lib.hid hbz
    clear hbz
    go_wp2_with (first
      | (go_at_call 141; refine (done_calls Z b 2 _ _ HZ.out.1 (by simp) (by decide) (by simp [Value.oneCell'])).mono ?_; rintro e w6 ⟨g, rfl, hr6, hb6, hg6, hg6'⟩; have H6 := Lib.hid (show _ ∧ _ from ⟨hr6, hb6⟩); clear hr6 hb6))
    have hDl : w5.heap.size + 1 < Z.heap.size := (Array.getElem?_eq_some_iff.1 HZ.out.2.2).1
    refine ⟨by simp, .inl ⟨_, _, rfl, run_takeDeferred ((H6.out.2.block _ hDl).trans HZ.out.2.2), ?_⟩⟩
    have hk6 : Kp (fun q => q ≠ w5.heap.size + 1) w6 (w6.putObj (w5.heap.size + 1) (.deferred none)) := kp_putObj _ _ _ fun q hq => hq
    have hz3 := HBZ.out.size
    have hs3 := H3.out.2.2.size
    have hz5 := H5.out.2.size
    have hbl : B < W3.heap.size := (Array.getElem?_eq_some_iff.1 H3.out.2.1).1
    refine ⟨_, results_tmp rfl _ _ _, g, rfl, fun j v hv => (World.cell?_of_block (a := ⟨g, 0 + j, none⟩) (hk6.block g (by omega))).trans (H6.out.1 j v hv), ?_, by omega, Nat.lt_of_lt_of_le hg6' hk6.size⟩
    exact (HBZ.out.trans (H6.out.2.mono hz3)).trans ((hk6.mono fun q (hq : q < w.heap.size) => by omega).to_below)
end Go.Proofs.YtokflmiijdpchaaGreat
