/- Marks of bytes; homes. -/
import Derived.Test.YtokflmiijdpchaaGreatD30
namespace Go.Proofs.YtokflmiijdpchaaGreat
open Go.RowKit
def fstep (h b : Int) : Int := IntKind.u64.wrap (bits .xor .u64 h (IntKind.u64.wrap b) * 1099511628211)
def fnv (xs : List Int) : Int := xs.foldl fstep 14695981039346656037
def By8 (xs : List Int) : List Value := xs.map (.int .u8)
theorem fnv_take (xs : List Int) (j : Nat) (h : j < xs.length) : fnv (xs.take (j + 1)) = fstep (fnv (xs.take j)) xs[j] := by
  rw [fnv, fnv, List.take_add_one, List.getElem?_eq_getElem h, Option.toList_some, List.foldl_append]
  rfl
set_option maxRecDepth 100000 in
set_option maxHeartbeats 2000000 in
theorem fnv_calls (w : World) (N g n c : Nat) (hc : w.cell? ⟨N, 0, none⟩ = some (.slice (some ⟨g, 0, none⟩) n c)) (xs : List Int) (hl : xs.length = n) (hn : n ≤ 1048576) (hr : w.rangeAt g 0 (By8 xs)) :
    Calls Tryz.prog 126 #[.slice (some ⟨N, 0, none⟩) 1 1] w fun e w' => e = .returned (.int .u64 (fnv xs)) ∧ w' = w := by
  have HX := Lib.hid hr
  clear hr
  go_enter Tryz.func126, Tryz.ntmps126
  go_wp2
  go_loopw [3, 10] (fun h i wr => wr = w ∧ ((i = .int .i64 0 ∧ h = .int .u64 14695981039346656037) ∨ (i = .int .i64 1 ∧ h = .int .u64 (fnv xs)))) (fun _ i _ => 1 - (intOf i).toNat)
  case atStart => exact ⟨rfl, .inl ⟨rfl, rfl⟩⟩
  case round =>
    obtain ⟨hw, hcase⟩ := hrel
    obtain rfl := hw.symm
    rcases hcase with ⟨rfl, rfl⟩ | ⟨rfl, rfl⟩
    · go_wp2
      go_loopw [3, 16] (fun h i wr2 => wr2 = w ∧ ∃ j : Nat, j ≤ n ∧ i = .int .i64 j ∧ h = .int .u64 (fnv (xs.take j))) (fun _ i _ => n - (intOf i).toNat)
      case atStart => exact ⟨rfl, 0, by omega, rfl, rfl⟩
      case round =>
        obtain ⟨hw, j, hj, rfl, rfl⟩ := hrel
        obtain rfl := hw.symm
        by_cases hjn : j < n
        · have hx : j < xs.length := by omega
          have hb : w.cell? ⟨g, j, none⟩ = some (.int .u8 xs[j]) := by
            have := HX.out j (.int .u8 xs[j]) (by rw [By8, List.getElem?_map, List.getElem?_eq_getElem hx]; rfl)
            simpa using this
          have HF := Lib.hid (fnv_take xs j hx)
          obtain ⟨y, hy⟩ : ∃ y, y = xs[j] := ⟨_, rfl⟩
          obtain ⟨f, hf⟩ : ∃ f, f = fnv (xs.take j) := ⟨_, rfl⟩
          have HY := Lib.hid (show _ ∧ _ from ⟨hy, hf⟩)
          rw [← hy] at hb
          rw [← hf]
          clear hy hf
          go_wp2
          exact ⟨⟨trivial, j + 1, by omega, by go_num, by rw [HF.out, ← HY.out.1, ← HY.out.2]; rfl⟩, by simp [intOf]; omega⟩
        · obtain rfl : j = n := by omega
          go_wp2
          exact ⟨⟨trivial, .inr ⟨rfl, by rw [List.take_of_length_le (by omega)]⟩⟩, by simp [intOf]⟩
    · go_wp2
      go_ret
      exact ⟨rfl, rfl⟩
set_option maxRecDepth 100000 in
set_option maxHeartbeats 2000000 in
theorem wide_calls (w : World) (v : Nat) (hv : v < 256) : Calls Tryz.prog 127 #[.int .u64 v, .int .i64 8] w fun e w' => ∃ g, e = .returned (.slice (some ⟨g, 0, none⟩) 8 8) ∧ w'.rangeAt g 0 (By8 [0, 0, 0, 0, 0, 0, 0, v]) ∧ Below w.heap.size w w' ∧ w.heap.size ≤ g ∧ g < w'.heap.size := by
  obtain ⟨ie, z, hie, hze, hisz, hib, hzs, hz0⟩ : ∃ ie z, Tryz.prog.info? 5 = some ie ∧ ie.zero = some z ∧ ie.size = 1 ∧ ie.bytes = 1 ∧ z.cells.size = 1 ∧ (madeCells z.cells (8 * 1)).toList = zs8 8 := ⟨_, _, rfl, rfl, rfl, rfl, rfl, by kernel_rfl⟩
  go_enter Tryz.func127, Tryz.ntmps127
  go_wp2_with (first
    | (at_make; refine wpList_make_full _ rfl _ _ 23 rfl 0 5 ie z 1 Tryz.underlying23 hie hze hisz .i64 .i64 8 8 8 rfl rfl rfl rfl (by rw [hib]; decide) (by unfold maxLen; decide) (Nat.zero_le _) ?_; intro w1 hown hg1; rw [hz0] at hown; have hb1 := Below.of_grown hg1; have H1 := Lib.hid (show w1.heap[w.heap.size]? = some (.cells (zs8 8).toArray 5 (0, 0)) ∧ _ from ⟨own_block hown, hb1⟩); clear hown hg1 hb1))
  go_loopw [11] (fun i wr => ∃ j : Nat, j ≤ 8 ∧ i = .int .i64 j ∧ wr.heap[w.heap.size]? = some (.cells (if j < 8 then zs8 8 else zs8 7 ++ [.int .u8 v]).toArray 5 (0, 0)) ∧ Below w.heap.size w wr) (fun i _ => 8 - (intOf i).toNat)
  case atStart => exact ⟨0, by omega, rfl, by simpa using H1.out.1, H1.out.2⟩
  case round =>
    obtain ⟨j, hj, rfl, hb, hbl⟩ := hrel
    by_cases hj8 : j < 8
    · rw [if_pos hj8] at hb
      have d0 := (cellD hb j).1
      have d0f := (cellD hb j).2
      have hlen : (zs8 8).toArray[j]? = some (.int .u8 0) := by
        rw [List.getElem?_toArray, zs8, List.getElem?_replicate, if_pos hj8]
      rw [hlen] at d0
      have HR := Lib.hid (show _ ∧ _ from ⟨hb, hbl⟩)
      clear hb hbl hlen
      have e1 : ((8 : Int) - 1 - (j : Int)).toNat = 7 - j := by omega
      have e2 : ((7 : Int) - (j : Int)).toNat = 7 - j := by omega
      go_wp2
      refine ⟨⟨j + 1, by omega, by go_num, ?_, HR.out.2.setCell (Nat.le_refl _) _⟩, by simp [intOf]; omega⟩
      have hz : ((v : Int) / 2 ^ (8 * (7 - j)) % 256) = ((v / 2 ^ (8 * (7 - j)) % 256 : Nat) : Int) := by simp
      rw [block_set HR.out.1, hz, List.setIfInBounds_toArray]
      rcases (show j < 7 ∨ j = 7 by omega) with h7 | rfl
      · rw [Nat.div_eq_of_lt (Nat.lt_of_lt_of_le hv (Nat.le_trans (by decide : (256 : Nat) ≤ 2 ^ 8) (Nat.pow_le_pow_right (by decide) (by omega)))), if_pos (by omega), zs8]
        simp only [Nat.zero_mod, Int.natCast_zero, List.set_replicate_self]
      · have hv7 : v / 2 ^ (8 * (7 - 7)) % 256 = v := by
          simp
          omega
        rw [hv7, if_neg (by omega)]
        rfl
    · obtain rfl : j = 8 := by omega
      rw [if_neg (by omega)] at hb
      have HR := Lib.hid (show _ ∧ _ from ⟨hb, hbl⟩)
      clear hb hbl
      go_wp2
      go_ret
      exact ⟨w.heap.size, rfl, by simpa [By8, zs8] using range_whole HR.out.1, HR.out.2, Nat.le_refl _, (Array.getElem?_eq_some_iff.1 HR.out.1).1⟩
theorem home_0_1 (w : World) : Calls Tryz.prog 74 #[.int .i64 0, .int .i64 1] w fun e w' => e = .returned (.int .i64 0) ∧ Below w.heap.size w w' := by
  have hf : fnv [0, 0, 0, 0, 0, 0, 0, 0] = 12161962213042174405 := by kernel_rfl
  have hwr : IntKind.u64.wrap 0 = 0 := by rfl
  go_enter Tryz.func74, Tryz.ntmps74
  go_wp2_with (first
    | (go_at_call 127; refine (wide_calls _ 0 (by decide)).mono ?_; rintro e w1 ⟨g, rfl, hr1, hb1, hg1, hg1'⟩; have H1 := Lib.hid (show _ ∧ _ from ⟨hr1, hb1⟩); clear hr1 hb1)
    | (go_at_call 126; refine (fnv_calls _ w1.heap.size g 8 8 (cellD (heap_alloc_new w1 _) 0).1 [0, 0, 0, 0, 0, 0, 0, 0] rfl (by decide) (range_below H1.out.1 ((Below.refl _ _).alloc (Nat.le_refl _) _) hg1')).mono ?_; rintro e w' ⟨rfl, hw⟩; obtain rfl := hw.symm; rw [hf])
    | (go_at_call 125; refine (jump_0_1 _).mono ?_; rintro e w2 ⟨rfl, hb2⟩; have H2 := Lib.hid hb2; clear hb2))
  go_ret
  exact ⟨rfl, H1.out.2.trans (((Below.refl w1.heap.size w1).alloc (Nat.le_refl _) _ |>.trans (H2.out.mono (by simp))).mono H1.out.2.size)⟩
theorem home_0_2 (w : World) : Calls Tryz.prog 74 #[.int .i64 0, .int .i64 2] w fun e w' => e = .returned (.int .i64 0) ∧ Below w.heap.size w w' := by
  have hf : fnv [0, 0, 0, 0, 0, 0, 0, 0] = 12161962213042174405 := by kernel_rfl
  have hwr : IntKind.u64.wrap 0 = 0 := by rfl
  go_enter Tryz.func74, Tryz.ntmps74
  go_wp2_with (first
    | (go_at_call 127; refine (wide_calls _ 0 (by decide)).mono ?_; rintro e w1 ⟨g, rfl, hr1, hb1, hg1, hg1'⟩; have H1 := Lib.hid (show _ ∧ _ from ⟨hr1, hb1⟩); clear hr1 hb1)
    | (go_at_call 126; refine (fnv_calls _ w1.heap.size g 8 8 (cellD (heap_alloc_new w1 _) 0).1 [0, 0, 0, 0, 0, 0, 0, 0] rfl (by decide) (range_below H1.out.1 ((Below.refl _ _).alloc (Nat.le_refl _) _) hg1')).mono ?_; rintro e w' ⟨rfl, hw⟩; obtain rfl := hw.symm; rw [hf])
    | (go_at_call 125; refine (jump_0_2 _).mono ?_; rintro e w2 ⟨rfl, hb2⟩; have H2 := Lib.hid hb2; clear hb2))
  go_ret
  exact ⟨rfl, H1.out.2.trans (((Below.refl w1.heap.size w1).alloc (Nat.le_refl _) _ |>.trans (H2.out.mono (by simp))).mono H1.out.2.size)⟩
theorem home_1_2 (w : World) : Calls Tryz.prog 74 #[.int .i64 1, .int .i64 2] w fun e w' => e = .returned (.int .i64 0) ∧ Below w.heap.size w w' := by
  have hf : fnv [0, 0, 0, 0, 0, 0, 0, 1] = 12161961113530546194 := by kernel_rfl
  have hwr : IntKind.u64.wrap 1 = 1 := by rfl
  go_enter Tryz.func74, Tryz.ntmps74
  go_wp2_with (first
    | (go_at_call 127; refine (wide_calls _ 1 (by decide)).mono ?_; rintro e w1 ⟨g, rfl, hr1, hb1, hg1, hg1'⟩; have H1 := Lib.hid (show _ ∧ _ from ⟨hr1, hb1⟩); clear hr1 hb1)
    | (go_at_call 126; refine (fnv_calls _ w1.heap.size g 8 8 (cellD (heap_alloc_new w1 _) 0).1 [0, 0, 0, 0, 0, 0, 0, 1] rfl (by decide) (range_below H1.out.1 ((Below.refl _ _).alloc (Nat.le_refl _) _) hg1')).mono ?_; rintro e w' ⟨rfl, hw⟩; obtain rfl := hw.symm; rw [hf])
    | (go_at_call 125; refine (jump_1_2 _).mono ?_; rintro e w2 ⟨rfl, hb2⟩; have H2 := Lib.hid hb2; clear hb2))
  go_ret
  exact ⟨rfl, H1.out.2.trans (((Below.refl w1.heap.size w1).alloc (Nat.le_refl _) _ |>.trans (H2.out.mono (by simp))).mono H1.out.2.size)⟩
theorem home_2_2 (w : World) : Calls Tryz.prog 74 #[.int .i64 2, .int .i64 2] w fun e w' => e = .returned (.int .i64 1) ∧ Below w.heap.size w w' := by
  have hf : fnv [0, 0, 0, 0, 0, 0, 0, 2] = 12161960014018917983 := by kernel_rfl
  have hwr : IntKind.u64.wrap 2 = 2 := by rfl
  go_enter Tryz.func74, Tryz.ntmps74
  go_wp2_with (first
    | (go_at_call 127; refine (wide_calls _ 2 (by decide)).mono ?_; rintro e w1 ⟨g, rfl, hr1, hb1, hg1, hg1'⟩; have H1 := Lib.hid (show _ ∧ _ from ⟨hr1, hb1⟩); clear hr1 hb1)
    | (go_at_call 126; refine (fnv_calls _ w1.heap.size g 8 8 (cellD (heap_alloc_new w1 _) 0).1 [0, 0, 0, 0, 0, 0, 0, 2] rfl (by decide) (range_below H1.out.1 ((Below.refl _ _).alloc (Nat.le_refl _) _) hg1')).mono ?_; rintro e w' ⟨rfl, hw⟩; obtain rfl := hw.symm; rw [hf])
    | (go_at_call 125; refine (jump_2_2 _).mono ?_; rintro e w2 ⟨rfl, hb2⟩; have H2 := Lib.hid hb2; clear hb2))
  go_ret
  exact ⟨rfl, H1.out.2.trans (((Below.refl w1.heap.size w1).alloc (Nat.le_refl _) _ |>.trans (H2.out.mono (by simp))).mono H1.out.2.size)⟩
theorem home_3_2 (w : World) : Calls Tryz.prog 74 #[.int .i64 3, .int .i64 2] w fun e w' => e = .returned (.int .i64 1) ∧ Below w.heap.size w w' := by
  have hf : fnv [0, 0, 0, 0, 0, 0, 0, 3] = 12161958914507289772 := by kernel_rfl
  have hwr : IntKind.u64.wrap 3 = 3 := by rfl
  go_enter Tryz.func74, Tryz.ntmps74
  go_wp2_with (first
    | (go_at_call 127; refine (wide_calls _ 3 (by decide)).mono ?_; rintro e w1 ⟨g, rfl, hr1, hb1, hg1, hg1'⟩; have H1 := Lib.hid (show _ ∧ _ from ⟨hr1, hb1⟩); clear hr1 hb1)
    | (go_at_call 126; refine (fnv_calls _ w1.heap.size g 8 8 (cellD (heap_alloc_new w1 _) 0).1 [0, 0, 0, 0, 0, 0, 0, 3] rfl (by decide) (range_below H1.out.1 ((Below.refl _ _).alloc (Nat.le_refl _) _) hg1')).mono ?_; rintro e w' ⟨rfl, hw⟩; obtain rfl := hw.symm; rw [hf])
    | (go_at_call 125; refine (jump_3_2 _).mono ?_; rintro e w2 ⟨rfl, hb2⟩; have H2 := Lib.hid hb2; clear hb2))
  go_ret
  exact ⟨rfl, H1.out.2.trans (((Below.refl w1.heap.size w1).alloc (Nat.le_refl _) _ |>.trans (H2.out.mono (by simp))).mono H1.out.2.size)⟩
end Go.Proofs.YtokflmiijdpchaaGreat
