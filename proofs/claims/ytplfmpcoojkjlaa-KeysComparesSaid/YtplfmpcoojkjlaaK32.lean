/- The walk of KeysCompares. -/
import Derived.Test.YtplfmpcoojkjlaaK42
import Derived.Test.YtplfmpcoojkjlaaK27
import Derived.Test.YtplfmpcoojkjlaaK21
import Derived.Test.YtplfmpcoojkjlaaK17
import Derived.Test.YtplfmpcoojkjlaaK19
namespace Go.Proofs.Ytplfmpcoojkjlaa
open Go.RowKit Go.Proofs.YtplfmpcoojkjlaaW.PrintWords
mutual
theorem TT.wt_map {σ τ : Type} (f : σ → τ) : ∀ (p : TT σ), (p.map f).wt = p.wt
  | .mk s t ps => by simp only [TT.map, TT.wt, TT.wts_map f ps]
theorem TT.wts_map {σ τ : Type} (f : σ → τ) : ∀ (ps : List (TT σ)), TT.wts (TT.maps f ps) = TT.wts ps
  | [] => rfl
  | p :: ps => by simp only [TT.maps, TT.wts, TT.wt_map f p, TT.wts_map f ps]
end
set_option maxRecDepth 100000 in
set_option maxHeartbeats 4000000 in
theorem compares_calls (w : World) (A B : Option Addr) (c d : Nat) (ms qs : List (LT PS)) (hA : RdL PS.enc w A ms) (hB : RdL PS.enc w B qs) (hfm : TT.alls PS.fits (LT.pures ms)) (hfq : TT.alls PS.fits (LT.pures qs)) :
    Calls Try.prog 4 #[.slice A ms.length c, .slice B qs.length d] w fun e w' => e = .returned (.bool true) ∧ Below w.heap.size w w' := by
  have hca := TT.counts_wt (LT.pures ms) 131072 (by omega)
  have hcb := TT.counts_wt (LT.pures qs) 131072 (by omega)
  have HBA := Lib.hid (fun w' (hb : Below w.heap.size w w') => (beyond_calls w' A c ms (hA.below hb)).mono fun _ _ h => (⟨h.1, h.2.symm⟩ : _ ∧ _))
  have HBB := Lib.hid (fun w' (hb : Below w.heap.size w w') => (beyond_calls w' B d qs (hB.below hb)).mono fun _ _ h => (⟨h.1, h.2.symm⟩ : _ ∧ _))
  have H0 := Lib.hid (show _ ∧ _ ∧ _ ∧ _ from ⟨hA, hB, hfm, hfq⟩)
  clear hA hB hfm hfq
  by_cases hna : TT.counts (LT.pures ms) 131072 < 0
  · rw [decide_eq_true hna] at HBA
    clear hca hcb
    go_enter Try.func4, Try.ntmps4
    go_wp2_with fail
    refine (HBA.out _ (Below.refl _ _)).mono ?_
    rintro e w1 ⟨rfl, rfl⟩
    go_wp2
    go_ret
    exact ⟨rfl, Below.refl _ _⟩
  by_cases hnb : TT.counts (LT.pures qs) 131072 < 0
  · rw [decide_eq_false hna] at HBA
    rw [decide_eq_true hnb] at HBB
    clear hca hcb
    go_enter Try.func4, Try.ntmps4
    go_wp2_with fail
    refine (HBA.out _ (Below.refl _ _)).mono ?_
    rintro e w1 ⟨rfl, rfl⟩
    go_wp2_with fail
    refine (HBB.out _ (Below.refl _ _)).mono ?_
    rintro e w1 ⟨rfl, rfl⟩
    go_wp2
    go_ret
    exact ⟨rfl, Below.refl _ _⟩
  have hwa : TT.wts (LT.pures ms) ≤ 1048576 := by have := hca.2.2 (by omega); omega
  have hwb : TT.wts (LT.pures qs) ≤ 1048576 := by have := hcb.2.2 (by omega); omega
  rw [decide_eq_false hna] at HBA
  rw [decide_eq_false hnb] at HBB
  clear hca hcb hna hnb
  have HW := Lib.hid (show _ ∧ _ from ⟨hwa, hwb⟩)
  clear hwa hwb
  go_enter Try.func4, Try.ntmps4
  go_wp2_with fail
  refine (HBA.out _ (Below.refl _ _)).mono ?_
  rintro e w1 ⟨rfl, rfl⟩
  go_wp2_with fail
  refine (HBB.out _ (Below.refl _ _)).mono ?_
  rintro e w1 ⟨rfl, rfl⟩
  clear HBA HBB
  go_wp2_with fail
  have hcmp := rcompare_calls w A B c d ms qs H0.out.1 H0.out.2.1 (TT.alls_mono (fun _ _ h => h.1) _ H0.out.2.2.1) (TT.alls_mono (fun _ _ h => h.1) _ H0.out.2.2.2)
  generalize hR : cmpS (LT.pures ms) (LT.pures qs) = R at hcmp
  obtain ⟨r1, r2⟩ := R
  have HR := Lib.hid hR
  clear hR
  refine hcmp.mono ?_
  rintro e w1 ⟨rfl, hb1⟩
  have HB1 := Lib.hid hb1
  clear hb1 hcmp
  go_wp2_with fail
  refine (val_all (LT.cnts ms) w1 A _ ms (Nat.le_refl _) (H0.out.1.below HB1.out) HW.out.1).mono ?_
  rintro e w2 ⟨h, ls, rfl, hp, ho, hn, hg, hm, hb⟩
  have H2 := Lib.hid (show _ ∧ _ ∧ _ ∧ _ ∧ Below w.heap.size w w2 from ⟨hp, ho, hm, hb, HB1.out.trans (hb.mono HB1.out.size)⟩)
  clear hp ho hn hg hm hb
  go_wp2_with fail
  refine (val_all (LT.cnts qs) w2 B _ qs (Nat.le_refl _) (H0.out.2.1.below H2.out.2.2.2.2) HW.out.2).mono ?_
  rintro e w3 ⟨h2, ts, rfl, hp, ho, hn, hg, hm, hb⟩
  have H3 := Lib.hid (show _ ∧ _ ∧ _ ∧ _ ∧ Below w.heap.size w w3 from ⟨hp, ho, hm, hb, H2.out.2.2.2.2.trans (hb.mono H2.out.2.2.2.2.size)⟩)
  clear hp ho hn hg hm hb
  go_wp2_with fail
  have hR1 : ∀ w', Below w3.heap.size w3 w' → RdL VS.enc w' h.A ls ∧ MkdL w' h ls := fun w' hb => ⟨((H2.out.2.1.rd.1).below H3.out.2.2.2.1).below hb, (H2.out.2.2.1.below H3.out.2.2.2.1).below hb⟩
  have hR2 : ∀ w', Below w3.heap.size w3 w' → RdL VS.enc w' h2.A ts ∧ MkdL w' h2 ts := fun w' hb => ⟨(H3.out.2.1.rd.1).below hb, H3.out.2.2.1.below hb⟩
  have HRR := Lib.hid (show _ ∧ _ from ⟨hR1, hR2⟩)
  clear hR1 hR2
  have hwl : TT.wts (LT.pures ls) ≤ 1048576 := by rw [H2.out.1, TT.wts_map]; exact HW.out.1
  have hwt : TT.wts (LT.pures ts) ≤ 1048576 := by rw [H3.out.1, TT.wts_map]; exact HW.out.2
  have HWL := Lib.hid (show _ ∧ _ from ⟨hwl, hwt⟩)
  clear hwl hwt
  refine (twin_all (LT.cnts ls) w3 h.A _ ls (Nat.le_refl _) (HRR.out.1 _ (Below.refl _ _)).1 (fun p hp => ((HRR.out.1 _ (Below.refl _ _)).2.all p hp).txd) (fun k hk => ?_) HWL.out.1).mono ?_
  · have := H2.out.2.1.lt k (List.mem_append_right _ hk)
    have := H3.out.2.2.2.1.size
    omega
  rintro e w4 ⟨g, ls2, rfl, hp, hr, _, htx, _, hb⟩
  have H4 := Lib.hid (show _ ∧ _ ∧ _ ∧ _ from ⟨hp, hr, htx, hb⟩)
  clear hp hr htx hb
  go_wp2_with fail
  refine (twin_all (LT.cnts ts) w4 h2.A _ ts (Nat.le_refl _) (HRR.out.2 _ H4.out.2.2.2).1 (fun p hp => ((HRR.out.2 _ H4.out.2.2.2).2.all p hp).txd) (fun k hk => ?_) HWL.out.2).mono ?_
  · have := H3.out.2.1.lt k (List.mem_append_right _ hk)
    have := H4.out.2.2.2.size
    omega
  rintro e w5 ⟨g2, ts2, rfl, hp, hr, _, htx, _, hb⟩
  have hb35 : Below w3.heap.size w3 w5 := H4.out.2.2.2.trans (hb.mono H4.out.2.2.2.size)
  have H5 := Lib.hid (show _ ∧ _ ∧ _ ∧ _ ∧ _ from ⟨hp, hr, htx, hb, hb35⟩)
  clear hp hr htx hb hb35
  go_wp2_with fail
  have hcmp2 := compare_calls w5 h.A h2.A h.cap h2.cap ls ts (HRR.out.1 _ H5.out.2.2.2.2).1 (HRR.out.2 _ H5.out.2.2.2.2).1 (by rw [H2.out.1]; exact TT.maps_all _ PS.all_fit _ H0.out.2.2.1) (by rw [H3.out.1]; exact TT.maps_all _ PS.all_fit _ H0.out.2.2.2)
  rw [H2.out.1, H3.out.1, maps_ps_all, maps_ps_all, HR.out] at hcmp2
  refine hcmp2.mono ?_
  rintro e w6 ⟨rfl, hb6⟩
  clear hcmp2
  have hb36 : Below w3.heap.size w3 w6 := H5.out.2.2.2.2.trans (hb6.mono H5.out.2.2.2.2.size)
  have HB6 := Lib.hid (show _ ∧ _ from ⟨hb6, hb36⟩)
  clear hb6 hb36
  go_wp2_with fail
  have hW6 : Below w.heap.size w w6 := H3.out.2.2.2.2.trans (HB6.out.2.mono H3.out.2.2.2.2.size)
  have hb46 : Below w4.heap.size w4 w6 := H5.out.2.2.2.1.trans (HB6.out.1.mono H5.out.2.2.2.1.size)
  have HX6 := Lib.hid (show _ ∧ _ from ⟨hW6, hb46⟩)
  clear hW6 hb46
  refine (kept_all (LT.cnts ms) w6 h g.A A _ _ ls ls2 ms (Nat.le_refl _) (HRR.out.1 _ HB6.out.2).1 (HRR.out.1 _ HB6.out.2).2 (H4.out.2.1.below HX6.out.2) (fun p hp => (H4.out.2.2.1 p hp).keep HX6.out.2) (H0.out.1.below HX6.out.1) HW.out.1 H2.out.1 H4.out.1).mono ?_
  rintro e w7 ⟨rfl, hb7⟩
  have HB7 := Lib.hid hb7
  clear hb7
  go_wp2_with fail
  have hb37 : Below w3.heap.size w3 w7 := HB6.out.2.trans (HB7.out.mono HB6.out.2.size)
  have hb57 : Below w5.heap.size w5 w7 := HB6.out.1.trans (HB7.out.mono HB6.out.1.size)
  have hW7 : Below w.heap.size w w7 := HX6.out.1.trans (HB7.out.mono HX6.out.1.size)
  have HX7 := Lib.hid (show _ ∧ _ ∧ _ from ⟨hb37, hb57, hW7⟩)
  clear hb37 hb57 hW7
  refine (kept_all (LT.cnts qs) w7 h2 g2.A B _ _ ts ts2 qs (Nat.le_refl _) (HRR.out.2 _ HX7.out.1).1 (HRR.out.2 _ HX7.out.1).2 (H5.out.2.1.below HX7.out.2.1) (fun p hp => (H5.out.2.2.1 p hp).keep HX7.out.2.1) (H0.out.2.1.below HX7.out.2.2) HW.out.2 H3.out.1 H5.out.1).mono ?_
  rintro e w8 ⟨rfl, hb8⟩
  have HB8 := Lib.hid (HX7.out.2.2.trans (hb8.mono HX7.out.2.2.size))
  clear hb8
  go_wp2
  go_ret
  exact ⟨rfl, HB8.out⟩
end Go.Proofs.Ytplfmpcoojkjlaa
