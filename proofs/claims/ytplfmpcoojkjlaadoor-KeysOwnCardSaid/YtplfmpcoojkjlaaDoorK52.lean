/- The walks of KeysCodes and KeysSpans. -/
import Derived.Test.YtplfmpcoojkjlaaDoorK51
import Derived.Test.YtplfmpcoojkjlaaDoorK21
import Derived.Test.YtplfmpcoojkjlaaDoorK17
import Derived.Test.YtplfmpcoojkjlaaDoorK19
namespace Go.Proofs.YtplfmpcoojkjlaaDoor
open Go.RowKit Go.Proofs.YtplfmpcoojkjlaaDoorW.PrintWords
mutual
theorem TT.wt_map {σ τ : Type} (f : σ → τ) : ∀ (p : TT σ), (p.map f).wt = p.wt
  | .mk s t ps => by simp only [TT.map, TT.wt, TT.wts_map f ps]
theorem TT.wts_map {σ τ : Type} (f : σ → τ) : ∀ (ps : List (TT σ)), TT.wts (TT.maps f ps) = TT.wts ps
  | [] => rfl
  | p :: ps => by simp only [TT.maps, TT.wts, TT.wt_map f p, TT.wts_map f ps]
end
/-- beyond, in whatever later world; what a row not beyond weighs. -/
theorem beyond_any (w : World) (A : Option Addr) (c : Nat) (ms : List (LT PS)) (hA : RdL PS.enc w A ms) : ∃ b : Bool, (∀ w', Below w.heap.size w w' → Calls Tryd.prog 12 #[.slice A ms.length c] w' fun e w'' => e = .returned (.bool b) ∧ w' = w'') ∧ (b = false → TT.wts (LT.pures ms) ≤ 131072) := by
  refine ⟨_, fun w' hb => (beyond_calls w' A c ms (hA.below hb)).mono fun _ _ h => ⟨h.1, h.2.symm⟩, fun h => ?_⟩
  have h1 := TT.counts_wt (LT.pures ms) 131072 (by omega)
  have h2 : ¬ TT.counts (LT.pures ms) 131072 < 0 := by simpa using h
  have := h1.2.2 (by omega)
  omega
set_option maxRecDepth 100000 in
set_option maxHeartbeats 4000000 in
theorem codes_calls (w : World) (A : Option Addr) (ms : List (LT PS)) (c : Nat) (hA : RdL PS.enc w A ms) (hfm : TT.alls PS.fits (LT.pures ms)) :
    Calls Tryd.prog 3 #[.slice A ms.length c] w fun e w' => e = .returned (.bool true) ∧ Below w.heap.size w w' := by
  obtain ⟨bb, hbb, hwt⟩ := beyond_any w A c ms hA
  have HBA := Lib.hid hbb
  have H0 := Lib.hid (show _ ∧ _ from ⟨hA, hfm⟩)
  clear hA hfm hbb
  cases bb
  case true =>
    clear hwt
    go_enter Tryd.func3, Tryd.ntmps3
    go_wp2_with fail
    refine (HBA.out _ (Below.refl _ _)).mono ?_
    rintro e w1 ⟨rfl, rfl⟩
    go_wp2
    go_ret
    exact ⟨rfl, Below.refl _ _⟩
  have hwa := hwt rfl
  have hcl := codL_len (LT.pures ms)
  have HW := Lib.hid (show TT.wts (LT.pures ms) ≤ 1048576 ∧ (codL (LT.pures ms)).length ≤ 1099511627775 from ⟨by omega, by omega⟩)
  clear hwa hwt hcl
  go_enter Tryd.func3, Tryd.ntmps3
  go_wp2_with fail
  refine (HBA.out _ (Below.refl _ _)).mono ?_
  rintro e w1 ⟨rfl, rfl⟩
  clear HBA
  go_wp2_with fail
  have hen := rencode_calls w A c ms H0.out.1 H0.out.2 (by have := HW.out.2; omega)
  unfold EncPost at hen
  have HEN := Lib.hid hen
  clear hen
  refine HEN.out.mono ?_
  rintro e w1 ⟨A1, c1, rfl, ho1, hb1⟩
  have H1 := Lib.hid (show _ ∧ _ from ⟨ho1, hb1⟩)
  clear ho1 hb1
  go_wp2_with fail
  refine (val_all (LT.cnts ms) w1 A _ ms (Nat.le_refl _) (H0.out.1.below H1.out.2) HW.out.1).mono ?_
  rintro e w2 ⟨h, ls, rfl, hp, ho, hn, hg, hm, hb⟩
  have H2 := Lib.hid (show _ ∧ _ ∧ _ ∧ _ ∧ Below w.heap.size w w2 from ⟨hp, ho, hm, hb, H1.out.2.trans (hb.mono H1.out.2.size)⟩)
  clear hp ho hn hg hm hb
  go_wp2_with fail
  have hR1 : ∀ w', Below w2.heap.size w2 w' → RdL VS.enc w' h.A ls ∧ MkdL w' h ls := fun w' hb => ⟨(H2.out.2.1.rd.1).below hb, H2.out.2.2.1.below hb⟩
  have HRR := Lib.hid hR1
  clear hR1
  have hwl : TT.wts (LT.pures ls) ≤ 1048576 := by rw [H2.out.1, TT.wts_map]; exact HW.out.1
  refine (twin_all (LT.cnts ls) w2 h.A _ ls (Nat.le_refl _) (HRR.out _ (Below.refl _ _)).1 (fun p hp => ((HRR.out _ (Below.refl _ _)).2.all p hp).txd) (fun k hk => H2.out.2.1.lt k (List.mem_append_right _ hk)) hwl).mono ?_
  rintro e w4 ⟨g, ls2, rfl, hp, hr, _, htx, _, hb⟩
  have H4 := Lib.hid (show _ ∧ _ ∧ _ ∧ _ from ⟨hp, hr, htx, hb⟩)
  clear hp hr htx hb hwl
  go_wp2_with fail
  have hen := encode_calls w4 h.A h.cap ls (HRR.out _ H4.out.2.2.2).1 (by rw [H2.out.1]; exact TT.maps_all _ PS.all_fit _ H0.out.2) (by rw [H2.out.1, maps_ps_all]; have := HW.out.2; omega)
  rw [H2.out.1, maps_ps_all] at hen
  unfold EncPost at hen
  generalize hfe : TT.flts PS.kind (LT.pures ms) 0 = er at *
  have HFE := Lib.hid hfe
  clear hfe
  have HEN2 := Lib.hid hen
  clear hen
  refine HEN2.out.mono ?_
  rintro e w5 ⟨A5, c5, rfl, ho5, hb5⟩
  have H5 := Lib.hid (show _ ∧ _ ∧ _ from ⟨ho5, hb5, H4.out.2.2.2.trans (hb5.mono H4.out.2.2.2.size)⟩)
  clear ho5 hb5
  go_wp2_with fail
  have hW5 : Below w.heap.size w w5 := H2.out.2.2.2.2.trans (H5.out.2.2.mono H2.out.2.2.2.2.size)
  have HX5 := Lib.hid hW5
  clear hW5
  refine (kept_all (LT.cnts ms) w5 h g.A A _ _ ls ls2 ms (Nat.le_refl _) (HRR.out _ H5.out.2.2).1 (HRR.out _ H5.out.2.2).2 (H4.out.2.1.below H5.out.2.1) (fun p hp => (H4.out.2.2.1 p hp).keep H5.out.2.1) (H0.out.1.below HX5.out) HW.out.1 H2.out.1 H4.out.1).mono ?_
  rintro e w6 ⟨rfl, hb6⟩
  have H6 := Lib.hid (show _ ∧ _ ∧ _ ∧ _ from ⟨hb6, HX5.out.trans (hb6.mono HX5.out.size), H5.out.2.2.trans (hb6.mono H5.out.2.2.size), H5.out.1.keep hb6⟩)
  clear hb6
  go_wp2_with fail
  have hr1 : Row w6 A1 (nums8 (encS (LT.pures ms))) := ((own_row H1.out.1).2.1.below H2.out.2.2.2.1).below H6.out.2.2.1
  have hr2 : Row w6 A5 (nums8 (encS (LT.pures ms))) := (own_row H6.out.2.2.2).2.1
  have hsame := same_calls w6 A1 A5 (encS (LT.pures ms)) (encS (LT.pures ms)) c1 c5 hr1 hr2 (own_row H1.out.1).2.2
  rw [decide_eq_true rfl] at hsame
  have HSA := Lib.hid hsame
  clear hsame hr1 hr2
  refine HSA.out.mono ?_
  rintro e w7 ⟨rfl, ⟨nd, rfl⟩⟩
  go_wp2
  go_ret
  exact ⟨rfl, pw_below_drewN H6.out.2.1 _⟩
set_option maxRecDepth 100000 in
set_option maxHeartbeats 4000000 in
theorem spans_calls (w : World) (A : Option Addr) (ms : List (LT PS)) (c : Nat) (hA : RdL PS.enc w A ms) (hfm : TT.alls PS.fits (LT.pures ms)) :
    Calls Tryd.prog 4 #[.slice A ms.length c] w fun e w' => e = .returned (.bool true) ∧ Below w.heap.size w w' := by
  obtain ⟨bb, hbb, hwt⟩ := beyond_any w A c ms hA
  have HBA := Lib.hid hbb
  have H0 := Lib.hid (show _ ∧ _ from ⟨hA, hfm⟩)
  clear hA hfm hbb
  cases bb
  case true =>
    clear hwt
    go_enter Tryd.func4, Tryd.ntmps4
    go_wp2_with fail
    refine (HBA.out _ (Below.refl _ _)).mono ?_
    rintro e w1 ⟨rfl, rfl⟩
    go_wp2
    go_ret
    exact ⟨rfl, Below.refl _ _⟩
  have hwa := hwt rfl
  have hcl := codL_len (LT.pures ms)
  have HW := Lib.hid (show TT.wts (LT.pures ms) ≤ 1048576 ∧ (codL (LT.pures ms)).length ≤ 1099511627775 from ⟨by omega, by omega⟩)
  clear hwa hwt hcl
  go_enter Tryd.func4, Tryd.ntmps4
  go_wp2_with fail
  refine (HBA.out _ (Below.refl _ _)).mono ?_
  rintro e w1 ⟨rfl, rfl⟩
  clear HBA
  go_wp2_with fail
  have hen := rspan_calls w A c ms H0.out.1 H0.out.2 HW.out.2
  unfold SpanPost at hen
  have HEN := Lib.hid hen
  clear hen
  refine HEN.out.mono ?_
  rintro e w1 ⟨A1, c1, B1, d1, rfl, ho1, hq1, _, hb1⟩
  have H1 := Lib.hid (show _ ∧ _ ∧ _ from ⟨ho1, hq1, hb1⟩)
  clear ho1 hq1 hb1
  go_wp2_with fail
  refine (val_all (LT.cnts ms) w1 A _ ms (Nat.le_refl _) (H0.out.1.below H1.out.2.2) HW.out.1).mono ?_
  rintro e w2 ⟨h, ls, rfl, hp, ho, hn, hg, hm, hb⟩
  have H2 := Lib.hid (show _ ∧ _ ∧ _ ∧ _ ∧ Below w.heap.size w w2 from ⟨hp, ho, hm, hb, H1.out.2.2.trans (hb.mono H1.out.2.2.size)⟩)
  clear hp ho hn hg hm hb
  go_wp2_with fail
  have hR1 : ∀ w', Below w2.heap.size w2 w' → RdL VS.enc w' h.A ls ∧ MkdL w' h ls := fun w' hb => ⟨(H2.out.2.1.rd.1).below hb, H2.out.2.2.1.below hb⟩
  have HRR := Lib.hid hR1
  clear hR1
  have hwl : TT.wts (LT.pures ls) ≤ 1048576 := by rw [H2.out.1, TT.wts_map]; exact HW.out.1
  refine (twin_all (LT.cnts ls) w2 h.A _ ls (Nat.le_refl _) (HRR.out _ (Below.refl _ _)).1 (fun p hp => ((HRR.out _ (Below.refl _ _)).2.all p hp).txd) (fun k hk => H2.out.2.1.lt k (List.mem_append_right _ hk)) hwl).mono ?_
  rintro e w4 ⟨g, ls2, rfl, hp, hr, _, htx, _, hb⟩
  have H4 := Lib.hid (show _ ∧ _ ∧ _ ∧ _ from ⟨hp, hr, htx, hb⟩)
  clear hp hr htx hb hwl
  go_wp2_with fail
  have hen := span_calls w4 h.A h.cap ls (HRR.out _ H4.out.2.2.2).1 (by rw [H2.out.1]; exact TT.maps_all _ PS.all_fit _ H0.out.2) (by rw [H2.out.1, maps_ps_all]; exact HW.out.2)
  rw [H2.out.1, maps_ps_all] at hen
  unfold SpanPost at hen
  generalize hfe : TT.flts PS.kind (LT.pures ms) 0 = er at *
  have HFE := Lib.hid hfe
  clear hfe
  have HEN2 := Lib.hid hen
  clear hen
  refine HEN2.out.mono ?_
  rintro e w5 ⟨A5, c5, B5, d5, rfl, ho5, hq5, _, hb5⟩
  have H5 := Lib.hid (show _ ∧ _ ∧ _ ∧ _ from ⟨ho5, hb5, H4.out.2.2.2.trans (hb5.mono H4.out.2.2.2.size), hq5⟩)
  clear ho5 hb5 hq5
  go_wp2_with fail
  have hW5 : Below w.heap.size w w5 := H2.out.2.2.2.2.trans (H5.out.2.2.1.mono H2.out.2.2.2.2.size)
  have HX5 := Lib.hid hW5
  clear hW5
  refine (kept_all (LT.cnts ms) w5 h g.A A _ _ ls ls2 ms (Nat.le_refl _) (HRR.out _ H5.out.2.2.1).1 (HRR.out _ H5.out.2.2.1).2 (H4.out.2.1.below H5.out.2.1) (fun p hp => (H4.out.2.2.1 p hp).keep H5.out.2.1) (H0.out.1.below HX5.out) HW.out.1 H2.out.1 H4.out.1).mono ?_
  rintro e w6 ⟨rfl, hb6⟩
  have H6 := Lib.hid (show _ ∧ _ ∧ _ ∧ _ ∧ _ from ⟨hb6, HX5.out.trans (hb6.mono HX5.out.size), H5.out.2.2.1.trans (hb6.mono H5.out.2.2.1.size), H5.out.1.keep hb6, H5.out.2.2.2.keep hb6⟩)
  clear hb6
  go_wp2_with fail
  have hsame := same_calls w6 A1 A5 (encS (LT.pures ms)) (encS (LT.pures ms)) c1 c5 (((own_row H1.out.1).2.1.below H2.out.2.2.2.1).below H6.out.2.2.1) (own_row H6.out.2.2.2.1).2.1 (own_row H1.out.1).2.2
  rw [decide_eq_true rfl] at hsame
  have hsame2 := fun n => same_calls (w6.drewN n) B1 B5 (spanS (LT.pures ms)) (spanS (LT.pures ms)) d1 d5 ((((own_row H1.out.2.1).2.1.below H2.out.2.2.2.1).below H6.out.2.2.1).below (pw_below_drewN (Below.refl _ _) _)) ((own_row H6.out.2.2.2.2).2.1.below (pw_below_drewN (Below.refl _ _) _)) (own_row H1.out.2.1).2.2
  rw [decide_eq_true rfl] at hsame2
  have HSA := Lib.hid (show _ ∧ _ from ⟨hsame, hsame2⟩)
  clear hsame hsame2
  refine HSA.out.1.mono ?_
  rintro e w7 ⟨rfl, ⟨nd, rfl⟩⟩
  go_wp2_with fail
  refine (HSA.out.2 nd).mono ?_
  rintro e w8 ⟨rfl, ⟨nd2, rfl⟩⟩
  go_wp2
  go_ret
  exact ⟨rfl, pw_below_drewN H6.out.2.1 _⟩
end Go.Proofs.YtplfmpcoojkjlaaDoor
