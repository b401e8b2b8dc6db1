/- ledger: who holds a shard, and whether the row is sound. -/
import Derived.Test.YtokflmiijdpchaaGreatD0
import Derived.Deep.Upon
import Derived.Deep.RegionHeld3
import Derived.Deep.Cut
import Derived.Laws.Cover3
import Derived.OwnWalkIn
import Derived.LoopNIn
import Derived.LoopIn
namespace Go.Proofs.YtokflmiijdpchaaGreat
open Go.RowKit
attribute [local go_sem] Oper.semAt_some
/-- A row of ledgers of which h's is Owned and all others Absent. -/
def LR (w : World) (g n h : Nat) : Prop := g < w.heap.size ∧ ∀ i, i < n → w.cell? ⟨g, i * 3, none⟩ = some (.int .i64 (if i = h then 1 else 0)) ∧ w.cell? ⟨g, i * 3 + 1, none⟩ = some (.int .i64 0) ∧ w.cell? ⟨g, i * 3 + 2, none⟩ = some (.int .i64 h)
theorem LR.below {w w' : World} {g n h : Nat} (hl : LR w g n h) (hb : Below w.heap.size w w') : LR w' g n h :=
  ⟨Nat.lt_of_lt_of_le hl.1 hb.size, fun i hi => let ⟨h1, h2, h3⟩ := hl.2 i hi; ⟨(hb.cell hl.1).trans h1, (hb.cell hl.1).trans h2, (hb.cell hl.1).trans h3⟩⟩
theorem holds_calls (w : World) (p e q : Int) (hp : p = 0 ∨ p = 1) : Calls Tryz.prog 43 #[.agg #[.int .i64 p, .int .i64 e, .int .i64 q]] w fun r w' => r = .returned (.bool (decide (p = 1))) ∧ Below w.heap.size w w' := by
  have hb : ∀ o : Obj, Below w.heap.size w (w.alloc o) := fun o => (Below.refl _ _).alloc (Nat.le_refl _) _
  have hn := heap_alloc_new w (.cells #[.int .i64 p, .int .i64 e, .int .i64 q] 41)
  have m0 : (w.alloc (.cells #[.int .i64 p, .int .i64 e, .int .i64 q] 41)).cell? ⟨w.heap.size, 0, none⟩ = some (.int .i64 p) := (cellD hn 0).1
  clear hn
  rcases hp with rfl | rfl
  · go_enter Tryz.func43, Tryz.ntmps43
    go_wp2
    go_ret
    exact ⟨rfl, hb _⟩
  · go_enter Tryz.func43, Tryz.ntmps43
    go_wp2
    go_ret
    exact ⟨rfl, hb _⟩
theorem serves_calls (w : World) (p e q : Int) (hp : p = 0 ∨ p = 1) : Calls Tryz.prog 44 #[.agg #[.int .i64 p, .int .i64 e, .int .i64 q]] w fun r w' => r = .returned (.bool (decide (p = 1))) ∧ Below w.heap.size w w' := by
  have hb : ∀ o : Obj, Below w.heap.size w (w.alloc o) := fun o => (Below.refl _ _).alloc (Nat.le_refl _) _
  have hn := heap_alloc_new w (.cells #[.int .i64 p, .int .i64 e, .int .i64 q] 41)
  have m0 : (w.alloc (.cells #[.int .i64 p, .int .i64 e, .int .i64 q] 41)).cell? ⟨w.heap.size, 0, none⟩ = some (.int .i64 p) := (cellD hn 0).1
  clear hn
  rcases hp with rfl | rfl
  · go_enter Tryz.func44, Tryz.ntmps44
    go_wp2
    go_ret
    exact ⟨rfl, hb _⟩
  · go_enter Tryz.func44, Tryz.ntmps44
    go_wp2
    go_ret
    exact ⟨rfl, hb _⟩
theorem isServer_calls (w : World) (x : Nat) (h : x < 8) : Calls Tryz.prog 102 #[.int .i64 x] w fun r w' => r = .returned (.bool true) ∧ w' = w := by
  have hd : decide ((x : Int) < 8) = true := by simp; omega
  go_enter Tryz.func102, Tryz.ntmps102
  go_wp2
  go_ret
  exact ⟨rfl, rfl⟩
set_option maxRecDepth 100000 in
theorem valid_calls (w : World) (i h : Nat) (hi : i < 8) (hh : h < 8) : Calls Tryz.prog 56 #[.int .i64 i, .agg #[.int .i64 (if i = h then 1 else 0), .int .i64 0, .int .i64 h]] w fun r w' => r = .returned (.bool true) ∧ Below w.heap.size w w' := by
  have hb : ∀ o : Obj, Below w.heap.size w (w.alloc o) := fun o => (Below.refl _ _).alloc (Nat.le_refl _) _
  by_cases hih : i = h
  · subst hih
    simp only [if_true]
    have hn := heap_alloc_new w (.cells #[.int .i64 1, .int .i64 0, .int .i64 i] 41)
    have m0 : (w.alloc (.cells #[.int .i64 1, .int .i64 0, .int .i64 i] 41)).cell? ⟨w.heap.size, 0, none⟩ = some (.int .i64 1) := (cellD hn 0).1
    have m1 : (w.alloc (.cells #[.int .i64 1, .int .i64 0, .int .i64 i] 41)).cell? ⟨w.heap.size, 1, none⟩ = some (.int .i64 0) := (cellD hn 1).1
    have m2 : (w.alloc (.cells #[.int .i64 1, .int .i64 0, .int .i64 i] 41)).cell? ⟨w.heap.size, 2, none⟩ = some (.int .i64 i) := (cellD hn 2).1
    clear hn
    go_enter Tryz.func56, Tryz.ntmps56
    go_wp2_with (first
      | (go_at_call 102; refine (isServer_calls _ i hi).mono ?_; rintro e w' ⟨rfl, hw⟩; obtain rfl := hw.symm))
    go_ret
    exact ⟨rfl, hb _⟩
  · simp only [if_neg hih]
    have hn := heap_alloc_new w (.cells #[.int .i64 0, .int .i64 0, .int .i64 h] 41)
    have m0 : (w.alloc (.cells #[.int .i64 0, .int .i64 0, .int .i64 h] 41)).cell? ⟨w.heap.size, 0, none⟩ = some (.int .i64 0) := (cellD hn 0).1
    have m1 : (w.alloc (.cells #[.int .i64 0, .int .i64 0, .int .i64 h] 41)).cell? ⟨w.heap.size, 1, none⟩ = some (.int .i64 0) := (cellD hn 1).1
    have m2 : (w.alloc (.cells #[.int .i64 0, .int .i64 0, .int .i64 h] 41)).cell? ⟨w.heap.size, 2, none⟩ = some (.int .i64 h) := (cellD hn 2).1
    clear hn
    have hne : ((h : Int) != i) = true := by simp; omega
    go_enter Tryz.func56, Tryz.ntmps56
    go_wp2_with (first
      | (go_at_call 102; refine (isServer_calls _ _ (by assumption)).mono ?_; rintro e w' ⟨rfl, hw⟩; obtain rfl := hw.symm))
    go_ret
    exact ⟨by simp, hb _⟩
set_option maxRecDepth 100000 in
theorem holder_calls (w : World) (g n h cap : Nat) (hr : LR w g n h) (hh : h < n) (hn : n ≤ 8) : Calls Tryz.prog 22 #[.slice (some ⟨g, 0, none⟩) n cap] w fun r w' => r = .returned (.int .i64 h) ∧ Below w.heap.size w w' := by
  have HR := Lib.hid hr
  clear hr
  go_enter Tryz.func22, Tryz.ntmps22
  go_wp2
  go_loopw [3, 4, 9] (fun b s i wr => ∃ j : Nat, j ≤ n ∧ i = .int .i64 j ∧ s = .bool false ∧ b = .int .i64 (if h < j then (h : Int) else -1) ∧ Below w.heap.size w wr) (fun _ _ i _ => n - (intOf i).toNat)
  case atStart => exact ⟨0, by omega, rfl, rfl, by simp, Below.refl _ _⟩
  case round =>
    obtain ⟨j, hj, rfl, rfl, rfl, hb⟩ := hrel
    by_cases hjn : j < n
    · obtain ⟨c0, c1, c2⟩ := (HR.out.below hb).2 j hjn
      have hg : g < wr.heap.size := (HR.out.below hb).1
      have HB := Lib.hid hb
      clear hb
      obtain ⟨b0, hb0⟩ : ∃ b0 : Int, b0 = (if h < j then (h : Int) else -1) := ⟨_, rfl⟩
      rw [← hb0]
      by_cases hjh : j = h
      · rw [if_pos hjh] at c0
        rw [if_neg (by omega)] at hb0
        subst hb0
        subst hjh
        go_wp2_with (first
          | (go_at_call 43; refine (holds_calls _ 1 0 _ (.inr rfl)).mono ?_; rintro e w2 ⟨rfl, hb2⟩; have H2 := Lib.hid hb2; clear hb2))
        exact ⟨⟨j + 1, by omega, by go_num, rfl, by rw [if_pos (by omega)], HB.out.trans (((((Below.refl wr.heap.size wr).alloc (Nat.le_refl _) _).trans (H2.out.mono (by simp)))).mono HB.out.size)⟩, by simp [intOf]; omega⟩
      · rw [if_neg hjh] at c0
        have HH := Lib.hid (show _ ∧ _ from ⟨hb0, hjh⟩)
        clear hb0 hjh
        go_wp2_with (first
          | (go_at_call 43; refine (holds_calls _ 0 0 h (.inl rfl)).mono ?_; rintro e w2 ⟨rfl, hb2⟩; have H2 := Lib.hid hb2; clear hb2))
        exact ⟨⟨j + 1, by omega, by go_num, rfl, by rw [HH.out.1]; have := HH.out.2; by_cases hlt : h < j <;> simp [hlt] <;> omega, HB.out.trans (((((Below.refl wr.heap.size wr).alloc (Nat.le_refl _) _).trans (H2.out.mono (by simp)))).mono HB.out.size)⟩, by simp [intOf]; omega⟩
    · obtain rfl : j = n := by omega
      rw [if_pos hh]
      go_wp2
      go_ret
      exact ⟨rfl, hb⟩
set_option maxRecDepth 100000 in
set_option maxHeartbeats 4000000 in
theorem lsound_calls (w : World) (g n h cap : Nat) (hr : LR w g n h) (hh : h < n) (hn : n ≤ 8) : Calls Tryz.prog 30 #[.slice (some ⟨g, 0, none⟩) n cap] w fun r w' => r = .returned (.bool true) ∧ Below w.heap.size w w' := by
  have HR := Lib.hid hr
  clear hr
  go_enter Tryz.func30, Tryz.ntmps30
  go_wp2_with (first
    | (go_at_call 22; refine (holder_calls w g n h cap HR.out hh hn).mono ?_; rintro e w1 ⟨rfl, hb1⟩; have H1 := Lib.hid hb1; clear hb1))
  go_loopw [16] (fun i wr => ∃ j : Nat, j ≤ n ∧ i = .int .i64 j ∧ Below w.heap.size w wr) (fun i _ => n - (intOf i).toNat)
  case atStart => exact ⟨0, by omega, rfl, H1.out⟩
  case round =>
    obtain ⟨j, hj, rfl, hb⟩ := hrel
    by_cases hjn : j < n
    · obtain ⟨c0, c1, c2⟩ := (HR.out.below hb).2 j hjn
      obtain ⟨d0, d1, d2⟩ := (HR.out.below hb).2 h hh
      rw [if_pos rfl] at d0
      have hg : g < wr.heap.size := (HR.out.below hb).1
      have hb0 : ∀ o : Obj, Below wr.heap.size wr (wr.alloc o) := fun o => (Below.refl _ _).alloc (Nat.le_refl _) _
      have HB := Lib.hid (show _ ∧ _ from ⟨hb, hb0⟩)
      clear hb hb0
      obtain ⟨ph, hph⟩ : ∃ ph : Int, ph = (if j = h then 1 else 0) := ⟨_, rfl⟩
      have HV := Lib.hid (fun W => hph ▸ valid_calls W j h (by omega) (by omega))
      rw [← hph] at c0
      have HP := Lib.hid hph
      clear hph
      go_upto_region 9 with (fail)
      obtain ⟨W0, hW0⟩ : ∃ W0, W0 = wr.alloc (.cells #[.int .i64 ph, .int .i64 0, .int .i64 h] 41) := ⟨_, rfl⟩
      have hn := heap_alloc_new wr (.cells #[.int .i64 ph, .int .i64 0, .int .i64 h] 41)
      rw [← hW0] at hn ⊢
      have hb0 : Below wr.heap.size wr W0 := hW0 ▸ HB.out.2 _
      have hsz : W0.heap.size = wr.heap.size + 1 := by rw [hW0]; simp
      have hKK : ∀ W : World, Below W0.heap.size W0 W → W.cell? ⟨wr.heap.size, 0, none⟩ = some (.int .i64 ph) ∧ W.cell? ⟨wr.heap.size, 1, none⟩ = some (.int .i64 0) ∧ W.cell? ⟨wr.heap.size, 2, none⟩ = some (.int .i64 h) ∧ W.cell? ⟨g, h * 3 + 1, none⟩ = some (.int .i64 0) ∧ W.cell? ⟨g, h * 3, none⟩ = some (.int .i64 1) ∧ W.cell? ⟨g, h * 3 + 2, none⟩ = some (.int .i64 h) := fun W hW => by
        have h1 := (hW.block wr.heap.size (by omega)).trans hn
        have h2 : ∀ o, W.cell? ⟨g, o, none⟩ = wr.cell? ⟨g, o, none⟩ := fun o => (hW.cell (p := ⟨g, o, none⟩) (by simp only; omega)).trans (hb0.cell (p := ⟨g, o, none⟩) hg)
        exact ⟨(cellD h1 0).1, (cellD h1 1).1, (cellD h1 2).1, (h2 _).trans d1, (h2 _).trans d0, (h2 _).trans d2⟩
      obtain ⟨k0, k1, k2, k3, k4, k5⟩ := hKK W0 (Below.refl _ _)
      have HK := Lib.hid (show _ ∧ _ ∧ _ from ⟨hKK, hb0, hsz⟩)
      clear hKK hb0 hsz hn hW0 c0 c1 c2 d0 d1 d2
      have hnh : decide (n ≤ h) = false := by simp; omega
      have hnh2 : (n ≤ h) = False := by simp; omega
      go_region_held3 (fun W => W.cell? ⟨wr.heap.size, 0, none⟩ = some (.int .i64 ph) ∧ W.cell? ⟨wr.heap.size, 1, none⟩ = some (.int .i64 0) ∧ W.cell? ⟨wr.heap.size, 2, none⟩ = some (.int .i64 h) ∧ W.cell? ⟨g, h * 3 + 1, none⟩ = some (.int .i64 0)) (first | go_keep | exact ⟨k0, k1, k2, k3⟩) ((go_at_call 56; refine (HV.out _).mono ?_; rintro e w2 ⟨rfl, hb2⟩; have hb3 : Below W0.heap.size W0 w2 := (Below.refl _ _).drew.trans hb2; obtain ⟨k0, k1, k2, k3, k4, k5⟩ := HK.out.1 w2 hb3; have H2 := Lib.hid hb3; clear hb2 hb3))
      have hl2 : wr.heap.size < w2.heap.size := by have := H2.out.size; have := HK.out.2.2; omega
      have hl3 : g < w2.heap.size := by omega
      have hend : ∀ o : Obj, Below w.heap.size w (w2.alloc o) := fun o => HB.out.1.trans ((HK.out.2.1.trans ((H2.out.trans ((Below.refl _ _).alloc (Nat.le_refl _) o |>.mono H2.out.size)).mono (by have := HK.out.2.2; omega))).mono HB.out.1.size)
      have HE := Lib.hid hend
      clear hend
      by_cases hjh : j = h
      · subst hjh
        obtain rfl : ph = 1 := HP.out.trans (if_pos rfl)
        go_wp2
        exact ⟨⟨j + 1, by omega, by go_num, HE.out _⟩, by simp [intOf]; omega⟩
      · obtain rfl : ph = 0 := HP.out.trans (if_neg hjh)
        go_wp2
        exact ⟨⟨j + 1, by omega, by go_num, HE.out _⟩, by simp [intOf]; omega⟩
    · obtain rfl : j = n := by omega
      go_wp2
      go_ret
      exact ⟨rfl, hb⟩
end Go.Proofs.YtokflmiijdpchaaGreat
