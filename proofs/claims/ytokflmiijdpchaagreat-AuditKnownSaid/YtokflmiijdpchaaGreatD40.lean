/- The engine: right, region, must, caught, the door of Open; a snapshot's Gen. The engine's checkpoint. -/
import Derived.Test.YtokflmiijdpchaaGreatD38
namespace Go.Proofs.YtokflmiijdpchaaGreat
open Go.RowKit
attribute [local go_sem] Oper.semAt_some
theorem wrap_small (x : Int) (h1 : -4611686018427387904 ≤ x) (h2 : x ≤ 4611686018427387904) : IntKind.i64.wrap x = x := by
  simp [IntKind.wrap, IntKind.signed, IntKind.bits]
  omega
theorem sgen_calls (w : World) (s d : Nat) (f z g : Int) (dead : Bool) (h : Sht w s d f z g dead) : Calls Tryz.prog 37 #[.pointer (some ⟨s, 0, none⟩)] w fun e w' => e = .returned (.int .i64 g) ∧ w' = w := by
  have c3 : w.cell? ⟨s, 3, none⟩ = some (.int .i64 g) := (cellD h 3).1
  clear h
  go_enter Tryz.func37, Tryz.ntmps37
  go_wp2
  go_ret
  exact ⟨rfl, rfl⟩
theorem emust_calls (w : World) : Calls Tryz.prog 36 #[.int .i64 0] w fun e w' => e = .returned (.tuple #[]) ∧ w' = w := by
  go_enter Tryz.func36, Tryz.ntmps36
  go_wp2
  first | go_end0 | refine bodyPost_ret (results_none rfl _ _ _) rfl ?_
  exact ⟨rfl, rfl⟩
/-- An engine's block. -/
def Eng (w : World) (e d : Nat) (lg sh : Int) (s l st : Value) : Prop := w.heap[e]? = some (.cells #[.pointer (some ⟨d, 0, none⟩), .int .i64 lg, .int .i64 sh, s, l, st, .bool false] 97 (0, 0))
theorem eregion_one (w : World) (e : Nat) : Calls Tryz.prog 68 #[.pointer (some ⟨e, 0, none⟩), .int .i64 1] w fun e w' => e = .returned (.int .i64 0) ∧ w' = w := by
  go_enter Tryz.func68, Tryz.ntmps68
  go_wp2
  go_ret
  exact ⟨rfl, rfl⟩
theorem ecaught_nil (w : World) : Calls Tryz.prog 34 #[.nilIface] w fun e w' => e = .returned (.int .i64 0) ∧ w' = w := by
  go_enter Tryz.func34, Tryz.ntmps34
  go_wp2
  go_ret
  exact ⟨rfl, rfl⟩
theorem eopen1_idle (w : World) (a b : Option Addr) : CallsD Tryz.prog 33 #[.pointer a, .pointer b] .returning w fun e u' w' => e = .returned (.tuple #[]) ∧ u' = .returning ∧ w' = w := by
  refine callsD_of_wpS Tryz.func33 rfl fun c₀ cs hu => ?_
  apply wpS_seq
  apply wpS_region
  simp [wpOpsS, go_sem, recoverD, hu, Tryz.ntmps33, Exit.thenS]
  refine (ecaught_nil w).mono ?_
  rintro e w' ⟨rfl, rfl⟩
  simp [go_sem]
  apply wpS_seq
  apply wpS_region
  simp [wpOpsS, go_sem, Exit.thenS]
  refine wpS_cond (t := false) (by rfl) ?_
  simp only [Bool.false_eq_true, if_false]
  refine wpS_of_wp ?_
  go_wp2
  cases c₀
  simp_all [bodyPostS, results, Tryz.results33]
theorem within_true (w : World) (x a b : Int) (h1 : a ≤ x) (h2 : x ≤ b) : Calls Tryz.prog 58 #[.int .i64 x, .int .i64 a, .int .i64 b] w fun e w' => e = .returned (.bool true) ∧ w' = w := by
  refine (within_calls w x a b).mono ?_
  rintro e w' ⟨rfl, rfl⟩
  simp [h1, h2]
set_option maxRecDepth 100000 in
set_option maxHeartbeats 4000000 in
theorem eright_calls (w : World) (d N sb k : Nat) (rv : Value) (h : Dsk w d N sb rv k) (sv n m cl lg sh sd : Int) (h1 : 1 ≤ n ∧ n ≤ 8 ∧ 0 ≤ sv ∧ sv < n ∧ 1 ≤ m ∧ m ≤ 64 ∧ 24 ≤ lg ∧ lg ≤ 4096 ∧ 64 ≤ sh ∧ sh ≤ 16384) :
    Calls Tryz.prog 32 #[.pointer (some ⟨d, 0, none⟩), .int .i64 sv, .agg #[.int .i64 n, .int .i64 m, .int .i64 cl, .int .i64 lg, .int .i64 sh, .int .u64 sd]] w fun e w' => e = .returned (.bool (decide (2 * (lg + sh) ≤ N))) ∧ Below w.heap.size w w' := by
  obtain ⟨g1, g2, g3, g4, g5, g6, g7, g8, g9, g10⟩ := h1
  have hb0 : ∀ o : Obj, Below w.heap.size w (w.alloc o) := fun o => (Below.refl _ _).alloc (Nat.le_refl _) _
  have hD : ∀ o : Obj, Dsk (w.alloc o) d N sb rv k := fun o => h.below (hb0 o)
  have hw0 := heap_alloc_new w (.cells #[.int .i64 n, .int .i64 m, .int .i64 cl, .int .i64 lg, .int .i64 sh, .int .u64 sd] 32)
  have HD := Lib.hid (show _ ∧ _ ∧ _ from ⟨hD, hw0, hb0⟩)
  clear h hD hb0 hw0
  go_enter Tryz.func32, Tryz.ntmps32
  go_upto_region 1 with (fail)
  obtain ⟨b, hb⟩ : ∃ b, b = w.heap.size := ⟨_, rfl⟩
  obtain ⟨W, hW⟩ : ∃ W, W = w.alloc (.cells #[.int .i64 n, .int .i64 m, .int .i64 cl, .int .i64 lg, .int .i64 sh, .int .u64 sd] 32) := ⟨_, rfl⟩
  have hDW : Dsk W d N sb rv k := hW ▸ HD.out.1 _
  have hBW : Below w.heap.size w W := hW ▸ HD.out.2.2 _
  have hc : W.heap[b]? = _ := hW ▸ hb ▸ HD.out.2.1
  rw [← hW, ← hb]
  have c0 := (cellD hc 0).1
  have c1 := (cellD hc 1).1
  have c3 := (cellD hc 3).1
  have c4 := (cellD hc 4).1
  replace c0 : W.cell? ⟨b, 0, none⟩ = some (.int .i64 n) := c0
  replace c1 : W.cell? ⟨b, 1, none⟩ = some (.int .i64 m) := c1
  replace c3 : W.cell? ⟨b, 3, none⟩ = some (.int .i64 lg) := c3
  replace c4 : W.cell? ⟨b, 4, none⟩ = some (.int .i64 sh) := c4
  have HW := Lib.hid (show _ ∧ _ from ⟨hDW, hBW⟩)
  clear hDW hBW hc hW hb
  have HN := Lib.hid (show IntKind.i64.wrap (n - 1) = n - 1 from wrap_small _ (by omega) (by omega))
  go_region_held3 (fun W => W.cell? ⟨b, 0, none⟩ = some (.int .i64 n) ∧ W.cell? ⟨b, 1, none⟩ = some (.int .i64 m) ∧ W.cell? ⟨b, 3, none⟩ = some (.int .i64 lg) ∧ W.cell? ⟨b, 4, none⟩ = some (.int .i64 sh)) (first | go_keep) (first
    | (go_at_call 58; (try rw [HN.out]); refine (within_true _ _ _ _ (by omega) (by omega)).mono ?_; rintro e w' ⟨rfl, hw⟩; obtain rfl := hw.symm)
    | (go_at_call 59; refine (sectors_calls _ d N sb k rv (HW.out.1.below (Below.refl _ _).drew)).mono ?_; rintro e w' ⟨rfl, hw⟩; obtain rfl := hw.symm))
  all_goals go_wp2
  all_goals first | go_end0 | go_ret
  all_goals
    rw [wrap_small (lg + sh) (by omega) (by omega), wrap_small (2 * (lg + sh)) (by omega) (by omega)]
    exact ⟨rfl, HW.out.2.drew⟩
end Go.Proofs.YtokflmiijdpchaaGreat
namespace Go.Proofs.YtokflmiijdpchaaGreat
open Go.RowKit
attribute [local go_sem] Oper.semAt_some
set_option maxRecDepth 100000 in
set_option maxHeartbeats 4000000 in
theorem echeck_calls (w : World) (e d : Nat) (lg sh : Nat) (s st : Nat) (lv : Value) (he : Eng w e d lg sh (.pointer (some ⟨s, 0, none⟩)) lv (.pointer (some ⟨st, 0, none⟩))) (hs : Sht w s d (2 * lg : Nat) sh 0 false) (N sb k : Nat) (U V : Nat → Prop) (hd : DU w d N sb k U) (hue : U e) (hus : U s)
    (sv n : Nat) (v : Value) (rs : List HRow) (hst : StV w st sv n v rs V) (hu0 : U st) (huv : ∀ q, q < w.heap.size → ¬ V q → U q) (hne : rs ≠ []) (hm : rs.length ≤ 64) (hsv : sv < 256) (hn : n < 256) (hrs : ∀ r ∈ rs, ∃ p q : Nat, r.1 = p ∧ r.2.1 = q ∧ p < 256 ∧ q < 256) (hfit : 3 + 6 * rs.length + tszs rs ≤ 64)
    (h1 : 24 ≤ lg ∧ lg ≤ 4096 ∧ 64 ≤ sh ∧ sh ≤ 16384) (hN : 2 * (lg + sh) ≤ N) (hk : k + 1 < 1048576) :
    Calls Tryz.prog 42 #[.pointer (some ⟨e, 0, none⟩)] w fun r w' => r = .returned (.tuple #[]) ∧ (∃ l, Eng w' e d lg sh (.pointer (some ⟨s, 0, none⟩)) (.pointer (some ⟨l, 0, none⟩)) (.pointer (some ⟨st, 0, none⟩))) ∧ Kp (fun q => U q ∧ q ≠ s ∧ q ≠ e) w w' := by
  obtain ⟨g1, g2, g3, g4⟩ := h1
  have hes : e ≠ s := fun h => by
    rw [h] at he
    have := he.symm.trans hs
    simp at this
  have hel := hd.lt hue
  have hsl := hd.lt hus
  have hk0 : ∀ W, Kp U w W → W.cell? ⟨e, 0, none⟩ = some (.pointer (some ⟨d, 0, none⟩)) ∧ W.cell? ⟨e, 1, none⟩ = some (.int .i64 lg) ∧ W.cell? ⟨e, 3, none⟩ = some (.pointer (some ⟨s, 0, none⟩)) ∧ W.cell? ⟨e, 5, none⟩ = some (.pointer (some ⟨st, 0, none⟩)) := fun W hk => by
    have h := (hk.block e hue).trans he
    exact ⟨(cellD h 0).1, (cellD h 1).1, (cellD h 3).1, (cellD h 5).1⟩
  obtain ⟨a0, a1, a2, a3⟩ := hk0 w (Kp.refl _ _)
  have HX := Lib.hid (show _ ∧ _ ∧ _ ∧ _ ∧ _ ∧ _ from ⟨he, hs, hd, hst, huv, hrs⟩)
  have HF := Lib.hid hfit
  have HK := Lib.hid hk0
  clear he hs hd hst huv hrs hk0 hfit
  go_enter Tryz.func42, Tryz.ntmps42
  go_upto_region 1 with (first
    | (go_at_call 37; refine (sgen_calls w s d _ _ _ _ HX.out.2.1).mono ?_; rintro r w' ⟨rfl, hw⟩; obtain rfl := hw.symm))
  go_region_held3 (fun W => W.cell? ⟨e, 0, none⟩ = some (.pointer (some ⟨d, 0, none⟩)) ∧ W.cell? ⟨e, 1, none⟩ = some (.int .i64 lg)) (first | go_keep) (first
    | (go_at_call 68; refine (eregion_one _ e).mono ?_; rintro r w' ⟨rfl, hw⟩; obtain rfl := hw.symm)
    | (go_at_call 77; refine (wmake_calls w.drew d N sb k U (HX.out.2.2.1.below (Below.refl _ _).drew) 0 lg 1 (by omega) hk (by omega) (by decide) (by decide)).mono ?_; rintro r w1 ⟨l, rfl, hd1, hk1⟩; have hk1' : Kp U w w1 := (Kp.refl _ w).drew.trans hk1; obtain ⟨b0, b1, b2, b3⟩ := HK.out w1 hk1'; have H1 := Lib.hid (show _ ∧ _ from ⟨hd1, hk1'⟩); clear hd1 hk1 hk1'))
  all_goals go_upto_region 3 with (first
    | (go_at_call 36; refine (emust_calls _).mono ?_; rintro r w' ⟨rfl, hw⟩; obtain rfl := hw.symm))
  go_region_held3 (fun W => W.cell? ⟨e, 3, none⟩ = some (.pointer (some ⟨s, 0, none⟩)) ∧ W.cell? ⟨e, 5, none⟩ = some (.pointer (some ⟨st, 0, none⟩))) (first | go_keep) (first
    | (go_at_call 79; refine (stbytes_calls w1.drew st sv n v rs V (HX.out.2.2.2.1.kp H1.out.2.drew hu0 HX.out.2.2.2.2.1) hne hm hsv hn HX.out.2.2.2.2.2).mono ?_; rintro r w2 ⟨g, bs, rfl, hl2, hr2, hu2, hb2, hg2, hg2'⟩; have hk2 : Kp U w w2 := H1.out.2.drew.trans (Kp.of_below hb2 fun q hq => H1.out.1.lt hq); obtain ⟨b4, b5, b6, b7⟩ := HK.out w2 hk2; have H2 := Lib.hid (show _ ∧ _ ∧ _ ∧ _ ∧ _ ∧ _ from ⟨(H1.out.1.below (Below.refl _ _).drew).more hb2, hk2, hl2, hr2, hu2, (show _ ∧ _ from ⟨hg2, hg2'⟩)⟩); clear hl2 hr2 hu2 hb2 hg2 hg2' hk2)
    | (go_at_call 78; refine (ssave_calls w2 s d (2 * lg) sh (HX.out.2.1.kp H2.out.2.1 hus) N sb _ H2.out.1 (.inl hus) g bs.length bs.length bs (.inr H2.out.2.2.2.2.2) H2.out.2.2.2.1 rfl H2.out.2.2.2.2.1 (by have := H2.out.2.2.1; omega) (by have := H2.out.2.2.1; have := HF.out; omega) (Nat.le_refl _) (by omega) (by omega)).mono ?_; rintro r w3 ⟨rfl, hk3⟩; have he3 : w3.heap[e]? = _ := (hk3.block e ⟨.inl hue, hes⟩).trans ((H2.out.2.1.block e hue).trans HX.out.1); have b8 := (cellD he3 4).2; have b9 : w3.cell? ⟨e, 3, none⟩ = some (.pointer (some ⟨s, 0, none⟩)) := (cellD he3 3).1; have b10 : w3.cell? ⟨e, 5, none⟩ = some (.pointer (some ⟨st, 0, none⟩)) := (cellD he3 5).1; have b11 : w3.cell? ⟨e, 4, none⟩ = some lv := (cellD he3 4).1; have H3 := Lib.hid (show _ ∧ _ from ⟨hk3, he3⟩); clear hk3 he3)
    | (go_at_call 36; refine (emust_calls _).mono ?_; rintro r w' ⟨rfl, hw⟩; obtain rfl := hw.symm))
  all_goals go_wp2
  all_goals first | go_end0 | refine bodyPost_ret (results_none rfl _ _ _) rfl ?_
  all_goals refine ⟨rfl, ⟨l, block_set H3.out.2 4 _⟩, ?_⟩
  all_goals
    refine ((H2.out.2.1.mono fun q (hq : U q ∧ q ≠ s ∧ q ≠ e) => hq.1).trans (H3.out.1.mono fun q hq => ⟨.inl hq.1, hq.2.1⟩)).set _ _ fun q hq => ⟨?_, hq.2.2⟩
    have := H2.out.1.lt (.inl hq.1)
    have := H3.out.1.size
    omega
end Go.Proofs.YtokflmiijdpchaaGreat
