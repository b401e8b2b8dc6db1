/- The law's own helpers: num, small, same, sameRow, sameHoldings. -/
import Derived.Test.YtokflmiijdpchaaGreatD58
namespace Go.Proofs.YtokflmiijdpchaaGreat
open Go.RowKit
attribute [local go_sem] Oper.semAt_some
theorem num29_calls (w : World) (k : Int) : Calls Tryz.prog 12 #[.int .i64 k] w fun e w' => e = .returned (.int .i64 k) ∧ w' = w := by
  go_enter Tryz.func12, Tryz.ntmps12
  go_wp2
  go_ret
  exact ⟨rfl, rfl⟩
theorem small_calls (w : World) : Calls Tryz.prog 6 #[] w fun e w' => e = .returned (.agg (stp 1 1 24 64 0 0)) ∧ Below w.heap.size w w' := by
  go_enter Tryz.func6, Tryz.ntmps6
  go_wp2
  refine bodyPost_ret (v := .agg (stp 1 1 24 64 0 0)) (by simp [stp, results, Tryz.results6, go_sem]) rfl ?_
  exact ⟨rfl, (Below.refl _ _).alloc (Nat.le_refl _) _⟩
set_option maxRecDepth 100000 in
theorem same_calls (w : World) (g h c1 c2 : Nat) (hgl : g < w.heap.size) (hhl : h < w.heap.size) (hg : w.rangeAt g 0 [.int .u8 2, b0, b0, b0]) (hh : w.rangeAt h 0 [.int .u8 2, b0, b0, b0]) : Calls Tryz.prog 17 #[.slice (some ⟨g, 0, none⟩) 4 c1, .slice (some ⟨h, 0, none⟩) 4 c2] w fun e w' => e = .returned (.bool true) ∧ Below w.heap.size w w' := by
  have HX := Lib.hid (show _ ∧ _ from ⟨hg, hh⟩)
  clear hg hh
  go_enter Tryz.func17, Tryz.ntmps17
  go_wp2
  go_loopw [5] (fun i wr => ∃ (j : Nat), j ≤ 4 ∧ i = .int .i64 j ∧ Below w.heap.size w wr) (fun i _ => 4 - (intOf i).toNat)
  case atStart => exact ⟨0, by omega, rfl, Below.refl _ _⟩
  case round =>
    obtain ⟨j, hj, rfl, hb⟩ := hrel
    have h1 := range_below HX.out.1 hb hgl
    have h2 := range_below HX.out.2 hb hhl
    have HB := Lib.hid hb
    clear hb
    by_cases hj4 : j < 4
    · obtain ⟨u, hu⟩ : ∃ u : Int, ([.int .u8 2, b0, b0, b0] : List Value)[j]? = some (.int .u8 u) := by
        rcases (show j = 0 ∨ j = 1 ∨ j = 2 ∨ j = 3 by omega) with rfl | rfl | rfl | rfl
        all_goals exact ⟨_, rfl⟩
      have c1' : wr.cell? ⟨g, j, none⟩ = some (.int .u8 u) := by simpa using h1 j _ hu
      have c2' : wr.cell? ⟨h, j, none⟩ = some (.int .u8 u) := by simpa using h2 j _ hu
      have hj7 : (0 : Int) ≤ j := by omega
      have hj8 : (j : Int) < 4 := by omega
      clear h1 h2 hu
      go_upto_region 6 with (fail)
      have e1 : wr.drew.cell? ⟨g, j, none⟩ = some (.int .u8 u) := c1'
      have e2 : wr.drew.cell? ⟨h, j, none⟩ = some (.int .u8 u) := c2'
      go_region_held3 (fun W => W.cell? ⟨g, j, none⟩ = some (.int .u8 u) ∧ W.cell? ⟨h, j, none⟩ = some (.int .u8 u)) (first | go_keep | exact ⟨e1, e2⟩) (fail)
      go_wp2
      exact ⟨⟨j + 1, by omega, by go_num, HB.out.drew⟩, by simp [intOf]; omega⟩
    · obtain rfl : j = 4 := by omega
      go_wp2
      go_ret
      exact ⟨rfl, HB.out⟩
set_option maxRecDepth 100000 in
theorem sameRow_calls (w : World) (g h c1 c2 : Nat) (hg : w.rangeAt g 0 [.int .i64 1, .int .i64 0, .int .i64 0]) (hh : w.rangeAt h 0 [.int .i64 1, .int .i64 0, .int .i64 0]) : Calls Tryz.prog 18 #[.slice (some ⟨g, 0, none⟩) 1 c1, .slice (some ⟨h, 0, none⟩) 1 c2] w fun e w' => e = .returned (.bool true) ∧ Below w.heap.size w w' := by
  have k0 : w.cell? ⟨g, 0, none⟩ = some (.int .i64 1) := by simpa using hg 0 _ rfl
  have k1 : w.cell? ⟨g, 1, none⟩ = some (.int .i64 0) := by simpa using hg 1 _ rfl
  have k2 : w.cell? ⟨g, 2, none⟩ = some (.int .i64 0) := by simpa using hg 2 _ rfl
  have l0 : w.cell? ⟨h, 0, none⟩ = some (.int .i64 1) := by simpa using hh 0 _ rfl
  have l1 : w.cell? ⟨h, 1, none⟩ = some (.int .i64 0) := by simpa using hh 1 _ rfl
  have l2 : w.cell? ⟨h, 2, none⟩ = some (.int .i64 0) := by simpa using hh 2 _ rfl
  clear hg hh
  go_enter Tryz.func18, Tryz.ntmps18
  go_wp2
  go_loopw [5] (fun i wr => (i = .int .i64 0 ∧ wr = w) ∨ (i = .int .i64 1 ∧ wr = w.drew)) (fun i _ => 1 - (intOf i).toNat)
  case atStart => exact .inl ⟨rfl, rfl⟩
  case round =>
    obtain ⟨rfl, rfl⟩ | ⟨rfl, rfl⟩ := hrel
    · go_upto_region 6 with (fail)
      go_region_held3 (fun W => W.cell? ⟨g, 0, none⟩ = some (.int .i64 1) ∧ W.cell? ⟨g, 1, none⟩ = some (.int .i64 0) ∧ W.cell? ⟨g, 2, none⟩ = some (.int .i64 0) ∧ W.cell? ⟨h, 0, none⟩ = some (.int .i64 1) ∧ W.cell? ⟨h, 1, none⟩ = some (.int .i64 0) ∧ W.cell? ⟨h, 2, none⟩ = some (.int .i64 0)) (first | go_keep | exact ⟨k0, k1, k2, l0, l1, l2⟩) (fail)
      go_wp2
      exact ⟨.inr ⟨rfl, trivial⟩, by simp [intOf]⟩
    · go_wp2
      go_ret
      exact ⟨rfl, (Below.refl _ _).drew⟩
set_option maxRecDepth 100000 in
set_option maxHeartbeats 2000000 in
theorem sameHoldings_calls (w : World) (g h c1 c2 p q : Nat) (hgl : g < w.heap.size) (hhl : h < w.heap.size) (hpl : p < w.heap.size) (hql : q < w.heap.size) (hg : w.rangeAt g 0 (hcs 0 p)) (hh : w.rangeAt h 0 (hcs 0 q)) (hp : w.rangeAt p 0 [.int .u8 2, b0, b0, b0]) (hq : w.rangeAt q 0 [.int .u8 2, b0, b0, b0]) : Calls Tryz.prog 13 #[.slice (some ⟨g, 0, none⟩) 1 c1, .slice (some ⟨h, 0, none⟩) 1 c2] w fun e w' => e = .returned (.bool true) ∧ Below w.heap.size w w' := by
  have hK : ∀ W : World, Below w.heap.size w W → (W.cell? ⟨g, 0, none⟩ = some (.int .i64 0) ∧ W.cell? ⟨g, 1, none⟩ = some (.int .i64 1) ∧ W.cell? ⟨g, 2, none⟩ = some (.int .i64 0) ∧ W.cell? ⟨g, 3, none⟩ = some (.int .i64 0) ∧ W.cell? ⟨g, 4, none⟩ = some (.slice (some ⟨p, 0, none⟩) 4 4)) ∧ (W.cell? ⟨h, 0, none⟩ = some (.int .i64 0) ∧ W.cell? ⟨h, 1, none⟩ = some (.int .i64 1) ∧ W.cell? ⟨h, 2, none⟩ = some (.int .i64 0) ∧ W.cell? ⟨h, 3, none⟩ = some (.int .i64 0) ∧ W.cell? ⟨h, 4, none⟩ = some (.slice (some ⟨q, 0, none⟩) 4 4)) ∧ Calls Tryz.prog 17 #[.slice (some ⟨p, 0, none⟩) 4 4, .slice (some ⟨q, 0, none⟩) 4 4] W fun e w' => e = .returned (.bool true) ∧ Below W.heap.size W w' := fun W hb => by
    have h1 := range_below hg hb hgl
    have h2 := range_below hh hb hhl
    exact ⟨⟨by simpa using h1 0 _ rfl, by simpa using h1 1 _ rfl, by simpa using h1 2 _ rfl, by simpa using h1 3 _ rfl, by simpa using h1 4 _ rfl⟩, ⟨by simpa using h2 0 _ rfl, by simpa using h2 1 _ rfl, by simpa using h2 2 _ rfl, by simpa using h2 3 _ rfl, by simpa using h2 4 _ rfl⟩, same_calls W p q 4 4 (Nat.lt_of_lt_of_le hpl hb.size) (Nat.lt_of_lt_of_le hql hb.size) (range_below hp hb hpl) (range_below hq hb hql)⟩
  obtain ⟨⟨k0, k1, k2, k3, k4⟩, ⟨l0, l1, l2, l3, l4⟩, -⟩ := hK w (Below.refl _ _)
  have HK := Lib.hid hK
  clear hK hg hh hp hq
  go_enter Tryz.func13, Tryz.ntmps13
  go_wp2
  go_loopw [5] (fun i wr => (i = .int .i64 0 ∧ wr = w) ∨ (i = .int .i64 1 ∧ Below w.heap.size w wr)) (fun i _ => 1 - (intOf i).toNat)
  case atStart => exact .inl ⟨rfl, rfl⟩
  case round =>
    obtain ⟨rfl, rfl⟩ | ⟨rfl, hb⟩ := hrel
    · go_upto_region 6 with (fail)
      have hsm := (HK.out wr.drew ((Below.refl _ _).drew)).2.2
      have HS := Lib.hid hsm
      clear hsm
      go_region_held3 (fun W => W.cell? ⟨g, 0, none⟩ = some (.int .i64 0) ∧ W.cell? ⟨g, 1, none⟩ = some (.int .i64 1) ∧ W.cell? ⟨g, 2, none⟩ = some (.int .i64 0) ∧ W.cell? ⟨g, 3, none⟩ = some (.int .i64 0) ∧ W.cell? ⟨g, 4, none⟩ = some (.slice (some ⟨p, 0, none⟩) 4 4) ∧ W.cell? ⟨h, 0, none⟩ = some (.int .i64 0) ∧ W.cell? ⟨h, 1, none⟩ = some (.int .i64 1) ∧ W.cell? ⟨h, 2, none⟩ = some (.int .i64 0) ∧ W.cell? ⟨h, 3, none⟩ = some (.int .i64 0) ∧ W.cell? ⟨h, 4, none⟩ = some (.slice (some ⟨q, 0, none⟩) 4 4)) (first | go_keep | exact ⟨k0, k1, k2, k3, k4, l0, l1, l2, l3, l4⟩) ((go_at_call 17; refine HS.out.mono ?_; rintro y w2 ⟨rfl, hb2⟩; have hb3 : Below wr.heap.size wr w2 := (Below.refl _ _).drew.trans hb2; obtain ⟨⟨k0, k1, k2, k3, k4⟩, ⟨l0, l1, l2, l3, l4⟩, -⟩ := HK.out w2 hb3; have H2 := Lib.hid hb3; clear hb2 hb3))
      go_wp2
      exact ⟨.inr ⟨rfl, H2.out⟩, by simp [intOf]⟩
    · go_wp2
      go_ret
      exact ⟨rfl, hb⟩
end Go.Proofs.YtokflmiijdpchaaGreat
