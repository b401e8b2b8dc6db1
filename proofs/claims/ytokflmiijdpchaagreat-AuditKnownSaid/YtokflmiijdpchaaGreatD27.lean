/- A writer's fixed numbers. An empty table. -/
import Derived.Test.YtokflmiijdpchaaGreatD25
namespace Go.Proofs.YtokflmiijdpchaaGreat
open Go.RowKit
/-- A number's lowest bytes, the lowest first. -/
def le (n : Nat) : Nat → List Value
  | 0 => []
  | k + 1 => .int .u8 ((n % 256 : Nat) : Int) :: le (n / 256) k
theorem le_length (n k : Nat) : (le n k).length = k := by
  induction k generalizing n with
  | zero => rfl
  | succ k ih => simp [le, ih]
theorem le_one (n k : Nat) : ∀ u ∈ le n k, u.oneCell' = true := by
  induction k generalizing n with
  | zero => simp [le]
  | succ k ih =>
    intro u hu
    rcases List.mem_cons.1 hu with rfl | hu
    · rfl
    · exact ih _ u hu
theorem le_step (n k : Nat) : le n (k + 1) = le n k ++ [.int .u8 ((n / 256 ^ k % 256 : Nat) : Int)] := by
  induction k generalizing n with
  | zero => simp [le]
  | succ k ih =>
    rw [le, ih, le, List.cons_append, Nat.div_div_eq_div_mul, Nat.pow_succ', Nat.mul_comm]
def zs8 (k : Nat) : List Value := List.replicate k (.int .u8 0)
theorem set_mid (xs ys : List Value) (a b : Value) : (xs ++ a :: ys).set xs.length b = xs ++ b :: ys := by
  rw [List.set_append_right _ _ (Nat.le_refl _), Nat.sub_self]
  rfl
theorem block_set {W : World} {b : Nat} {c : Array Value} {t : TypeId} (h : W.heap[b]? = some (.cells c t (0, 0))) (i : Nat) (v : Value) : (W.setCell ⟨b, i, none⟩ v).heap[b]? = some (.cells (c.setIfInBounds i v) t (0, 0)) := by
  simp only [World.setCell, Array.getElem?_modify, if_true, h]
  rfl
set_option maxRecDepth 100000 in
set_option maxHeartbeats 2000000 in
theorem down8_calls (w : World) (g n : Nat) (hn : n < 18446744073709551616) (hb : w.heap[g]? = some (.cells (zs8 8).toArray 5 (0, 0))) :
    Calls Tryz.prog 208 #[.slice (some ⟨g, 0, none⟩) 8 8, .int .u64 n] w fun e w' => e = .returned (.tuple #[]) ∧ w'.heap[g]? = some (.cells (le n 8).toArray 5 (0, 0)) ∧ w.grownBy w' (some g) := by
  have HB := Lib.hid hb
  clear hb
  go_enter Tryz.func208, Tryz.ntmps208
  go_wp2
  go_loopw [1, 7] (fun v i wr => ∃ j : Nat, j ≤ 8 ∧ i = .int .i64 j ∧ v = .int .u64 ((n / 256 ^ j : Nat) : Int) ∧ wr.heap[g]? = some (.cells (le n j ++ zs8 (8 - j)).toArray 5 (0, 0)) ∧ w.grownBy wr (some g)) (fun _ i _ => 8 - (intOf i).toNat)
  case atStart => exact ⟨0, by omega, rfl, by simp, by simpa [le] using HB.out, rfl, rfl, rfl, Nat.le_refl _, fun _ _ _ => rfl⟩
  case round =>
    obtain ⟨j, hj, rfl, rfl, hb, hg⟩ := hrel
    have HR := Lib.hid (show _ ∧ _ from ⟨hb, hg⟩)
    by_cases hj8 : j < 8
    · have hlt : n / 256 ^ j < 18446744073709551616 := Nat.lt_of_le_of_lt (Nat.div_le_self _ _) hn
      have d0 := (cellD hb j).1
      have d0f := (cellD hb j).2
      have hlen : (le n j ++ zs8 (8 - j)).toArray[j]? = some (.int .u8 0) := by
        rw [List.getElem?_toArray, List.getElem?_append_right (by rw [le_length]; exact Nat.le_refl _), le_length, Nat.sub_self, zs8, show 8 - j = (7 - j) + 1 by omega]
        rfl
      rw [hlen] at d0
      obtain ⟨x, hx⟩ : ∃ x, x = n / 256 ^ j := ⟨_, rfl⟩
      have HX := Lib.hid hx
      rw [← hx] at hlt ⊢
      clear hb hg hlen hx
      have e1 : (x : Int) / 2 ^ 4 / 2 ^ 4 = ((x / 256 : Nat) : Int) := by omega
      go_wp2
      refine ⟨⟨j + 1, by omega, by go_num, ?_, ?_, grown_set HR.out.2 _ _⟩, by simp [intOf]; omega⟩
      · rw [Nat.pow_succ, ← Nat.div_div_eq_div_mul, ← HX.out]
        congr 1
      · rw [block_set HR.out.1, List.setIfInBounds_toArray, show 8 - j = (8 - (j + 1)) + 1 by omega, show zs8 (8 - (j + 1) + 1) = .int .u8 0 :: zs8 (8 - (j + 1)) from rfl]
        have hs := set_mid (le n j) (zs8 (8 - (j + 1))) (.int .u8 0) (.int .u8 ((x : Int) % 256))
        rw [le_length] at hs
        rw [hs, le_step, List.append_assoc, ← HX.out]
        rfl
    · obtain rfl : j = 8 := by omega
      clear hb hg
      go_wp2
      first | go_end0 | refine bodyPost_ret (results_none rfl _ _ _) rfl ?_
      exact ⟨rfl, by simpa [zs8] using HR.out.1, HR.out.2⟩
set_option maxRecDepth 100000 in
set_option maxHeartbeats 2000000 in
theorem down4_calls (w : World) (g : Nat) (hb : w.heap[g]? = some (.cells (zs8 4).toArray 5 (0, 0))) :
    Calls Tryz.prog 207 #[.slice (some ⟨g, 0, none⟩) 4 4, .int .u32 0] w fun e w' => e = .returned (.tuple #[]) ∧ w'.heap[g]? = some (.cells (zs8 4).toArray 5 (0, 0)) ∧ w.grownBy w' (some g) := by
  have HB := Lib.hid hb
  clear hb
  go_enter Tryz.func207, Tryz.ntmps207
  go_wp2
  go_loopw [1, 7] (fun v i wr => ∃ j : Nat, j ≤ 4 ∧ i = .int .i64 j ∧ v = .int .u32 0 ∧ wr.heap[g]? = some (.cells (zs8 4).toArray 5 (0, 0)) ∧ w.grownBy wr (some g)) (fun _ i _ => 4 - (intOf i).toNat)
  case atStart => exact ⟨0, by omega, rfl, rfl, HB.out, rfl, rfl, rfl, Nat.le_refl _, fun _ _ _ => rfl⟩
  case round =>
    obtain ⟨j, hj, rfl, rfl, hb, hg⟩ := hrel
    have HR := Lib.hid (show _ ∧ _ from ⟨hb, hg⟩)
    by_cases hj8 : j < 4
    · have d0 := (cellD hb j).1
      have d0f := (cellD hb j).2
      have hlen : (zs8 4).toArray[j]? = some (.int .u8 0) := by
        rw [List.getElem?_toArray, zs8, List.getElem?_replicate, if_pos hj8]
      rw [hlen] at d0
      clear hb hg hlen
      go_wp2
      refine ⟨⟨j + 1, by omega, by go_num, rfl, ?_, grown_set HR.out.2 _ _⟩, by simp [intOf]; omega⟩
      rw [block_set HR.out.1, List.setIfInBounds_toArray]
      congr 3
      rcases (show j = 0 ∨ j = 1 ∨ j = 2 ∨ j = 3 by omega) with rfl | rfl | rfl | rfl <;> rfl
    · obtain rfl : j = 4 := by omega
      clear hb hg
      go_wp2
      first | go_end0 | refine bodyPost_ret (results_none rfl _ _ _) rfl ?_
      exact ⟨rfl, HR.out.1, HR.out.2⟩
theorem own_block {w : World} {g n : Nat} {xs : List Value} (h : w.ownsRow 0 5 1 (.slice (some ⟨g, 0, none⟩) n n) n xs) : w.heap[g]? = some (.cells xs.toArray 5 (0, 0)) := by
  rcases h.2 with ⟨h0, -⟩ | ⟨g', cap, cur, hv, -, hg, -, -, hs, ht⟩
  · cases h0
  · cases hv
    rw [hg, ← ht, List.take_of_length_le (by simp; omega), Array.toArray_toList]
set_option maxRecDepth 100000 in
set_option maxHeartbeats 2000000 in
theorem fixed8_calls (w : World) (b room : Nat) (bs : List Value) (U : Nat → Prop) (h : Wr w b room bs U) (hroom : room ≤ 1099511627776) (n : Nat) (hn : n < 18446744073709551616) (hfit : bs.length + 8 ≤ room) :
    Calls Tryz.prog 139 #[.pointer (some ⟨b, 0, none⟩), .int .u64 n, .int .i64 8] w fun e w' => e = .returned (.tuple #[]) ∧ Wr w' b room (bs ++ le n 8) U ∧ Kp U w w' := by
  obtain ⟨ie, z, hie, hze, hisz, hib, hzs, hz0⟩ : ∃ ie z, Tryz.prog.info? 5 = some ie ∧ ie.zero = some z ∧ ie.size = 1 ∧ ie.bytes = 1 ∧ z.cells.size = 1 ∧ (madeCells z.cells (8 * 1)).toList = zs8 8 := ⟨_, _, rfl, rfl, rfl, rfl, rfl, by kernel_rfl⟩
  have HW := Lib.hid h
  clear h
  go_enter Tryz.func139, Tryz.ntmps139
  go_wp2_with (first
    | (at_make; refine wpList_make_full _ rfl _ _ 23 rfl 0 5 ie z 1 Tryz.underlying23 hie hze hisz .i64 .i64 8 8 8 rfl rfl rfl rfl (by rw [hib]; decide) (by unfold maxLen; decide) (Nat.zero_le _) ?_; intro w1 hown hg1; rw [hz0] at hown; have hb1 := Below.of_grown hg1; have H1 := Lib.hid (show w1.heap[w.heap.size]? = some (.cells (zs8 8).toArray 5 (0, 0)) ∧ _ from ⟨own_block hown, hb1⟩); clear hown hg1 hb1)
    | (go_at_call 208; refine (down8_calls _ w.heap.size n hn H1.out.1).mono ?_; rintro e w2 ⟨rfl, hc2, hg2⟩; have H2 := Lib.hid (show (w2.rangeAt w.heap.size 0 (le n 8) ∧ ((le n 8)).length = 8) ∧ Below w.heap.size w w2 from ⟨⟨by simpa using range_whole hc2, le_length n 8⟩, (H1.out.2.grown hg2 H1.out.2.size (fun q hq => by cases hq; exact Nat.le_refl _))⟩); clear hc2 hg2)
    | (go_at_call 204; refine (lay_calls _ b room bs U (HW.out.below H2.out.2) hroom w.heap.size 0 8 8 _ H2.out.1.2 H2.out.1.1 (le_one n 8) hfit).mono ?_; rintro e w3 ⟨rfl, hw3, hk3⟩; have H3 := Lib.hid (show _ ∧ _ from ⟨hw3, hk3⟩); clear hw3 hk3))
  first | go_end0 | refine bodyPost_ret (results_none rfl _ _ _) rfl ?_
  exact ⟨rfl, H3.out.1, (Kp.of_below H2.out.2 fun q hq => HW.out.lt hq).trans H3.out.2⟩
set_option maxRecDepth 100000 in
set_option maxHeartbeats 2000000 in
theorem fixed4_calls (w : World) (b room : Nat) (bs : List Value) (U : Nat → Prop) (h : Wr w b room bs U) (hroom : room ≤ 1099511627776) (hfit : bs.length + 4 ≤ room) :
    Calls Tryz.prog 139 #[.pointer (some ⟨b, 0, none⟩), .int .u64 0, .int .i64 4] w fun e w' => e = .returned (.tuple #[]) ∧ Wr w' b room (bs ++ zs8 4) U ∧ Kp U w w' := by
  obtain ⟨ie, z, hie, hze, hisz, hib, hzs, hz0⟩ : ∃ ie z, Tryz.prog.info? 5 = some ie ∧ ie.zero = some z ∧ ie.size = 1 ∧ ie.bytes = 1 ∧ z.cells.size = 1 ∧ (madeCells z.cells (4 * 1)).toList = zs8 4 := ⟨_, _, rfl, rfl, rfl, rfl, rfl, by kernel_rfl⟩
  have HW := Lib.hid h
  clear h
  go_enter Tryz.func139, Tryz.ntmps139
  go_wp2_with (first
    | (at_make; refine wpList_make_full _ rfl _ _ 23 rfl 0 5 ie z 1 Tryz.underlying23 hie hze hisz .i64 .i64 4 4 4 rfl rfl rfl rfl (by rw [hib]; decide) (by unfold maxLen; decide) (Nat.zero_le _) ?_; intro w1 hown hg1; rw [hz0] at hown; have hb1 := Below.of_grown hg1; have H1 := Lib.hid (show w1.heap[w.heap.size]? = some (.cells (zs8 4).toArray 5 (0, 0)) ∧ _ from ⟨own_block hown, hb1⟩); clear hown hg1 hb1)
    | (go_at_call 207; refine (down4_calls _ w.heap.size H1.out.1).mono ?_; rintro e w2 ⟨rfl, hc2, hg2⟩; have H2 := Lib.hid (show (w2.rangeAt w.heap.size 0 (zs8 4) ∧ ((zs8 4)).length = 4) ∧ Below w.heap.size w w2 from ⟨⟨by simpa using range_whole hc2, rfl⟩, (H1.out.2.grown hg2 H1.out.2.size (fun q hq => by cases hq; exact Nat.le_refl _))⟩); clear hc2 hg2)
    | (go_at_call 204; refine (lay_calls _ b room bs U (HW.out.below H2.out.2) hroom w.heap.size 0 4 4 _ H2.out.1.2 H2.out.1.1 (fun u hu => by rw [List.eq_of_mem_replicate hu]; rfl) hfit).mono ?_; rintro e w3 ⟨rfl, hw3, hk3⟩; have H3 := Lib.hid (show _ ∧ _ from ⟨hw3, hk3⟩); clear hw3 hk3))
  first | go_end0 | refine bodyPost_ret (results_none rfl _ _ _) rfl ?_
  exact ⟨rfl, H3.out.1, (Kp.of_below H2.out.2 fun q hq => HW.out.lt hq).trans H3.out.2⟩
end Go.Proofs.YtokflmiijdpchaaGreat
namespace Go.Proofs.YtokflmiijdpchaaGreat
open Go.RowKit
def Tb (w : World) (t : Nat) : Prop := w.heap[t]? = some (.cells #[.pointer none, .int .i64 0, .int .i64 0] 242 (0, 0))
theorem tnew_calls (w : World) : Calls Tryz.prog 128 #[] w fun e w' => e = .returned (.pointer (some ⟨w.heap.size, 0, none⟩)) ∧ w' = w.alloc (.cells #[.pointer none, .int .i64 0, .int .i64 0] 242) := by
  go_enter Tryz.func128, Tryz.ntmps128
  go_wp2
  go_ret
  exact ⟨rfl, rfl⟩
theorem tlen_nil (w : World) : Calls Tryz.prog 225 #[.pointer none] w fun e w' => e = .returned (.int .i64 0) ∧ w' = w := by
  go_enter Tryz.func225, Tryz.ntmps225
  go_wp2
  go_ret
  exact ⟨rfl, rfl⟩
set_option maxRecDepth 100000 in
theorem tnum_calls (w : World) (n : Nat) (hn : n < 128) : Calls Tryz.prog 243 #[.int .i64 n] w fun e w' => e = .returned (.int .i64 1) ∧ w' = w := by
  go_enter Tryz.func243, Tryz.ntmps243
  go_wp2
  go_loopw [0, 3] (fun x s wr => x = .int .i64 n ∧ s = .int .i64 1 ∧ wr = w) (fun _ _ _ => 0)
  case atStart => exact ⟨rfl, rfl, rfl⟩
  case round =>
    obtain ⟨rfl, rfl, hw⟩ := hrel
    obtain rfl := hw.symm
    go_wp2
    go_ret
    exact ⟨rfl, rfl⟩
set_option maxRecDepth 100000 in
theorem numSize_calls (w : World) (n : Nat) (hn : n < 128) : Calls Tryz.prog 197 #[.int .i64 n] w fun e w' => e = .returned (.int .i64 1) ∧ w' = w := by
  go_enter Tryz.func197, Tryz.ntmps197
  go_wp2
  go_loopw [0, 3] (fun x s wr => x = .int .i64 n ∧ s = .int .i64 1 ∧ wr = w) (fun _ _ _ => 0)
  case atStart => exact ⟨rfl, rfl, rfl⟩
  case round =>
    obtain ⟨rfl, rfl, hw⟩ := hrel
    obtain rfl := hw.symm
    go_wp2
    go_ret
    exact ⟨rfl, rfl⟩
set_option maxRecDepth 100000 in
theorem lengthSize_calls (w : World) (n : Nat) (hn : n < 128) : Calls Tryz.prog 130 #[.int .i64 n] w fun e w' => e = .returned (.int .i64 1) ∧ w' = w := by
  go_enter Tryz.func130, Tryz.ntmps130
  go_wp2
  go_loopw [0, 3] (fun x s wr => x = .int .i64 n ∧ s = .int .i64 1 ∧ wr = w) (fun _ _ _ => 0)
  case atStart => exact ⟨rfl, rfl, rfl⟩
  case round =>
    obtain ⟨rfl, rfl, hw⟩ := hrel
    obtain rfl := hw.symm
    go_wp2
    go_ret
    exact ⟨rfl, rfl⟩
set_option maxRecDepth 100000 in
set_option maxHeartbeats 2000000 in
theorem tsize_calls (w : World) (t : Nat) (h : Tb w t) : Calls Tryz.prog 196 #[.pointer (some ⟨t, 0, none⟩)] w fun e w' => e = .returned (.int .i64 2) ∧ Below w.heap.size w w' := by
  have c0 := (cellD h 0).1
  have c1 := (cellD h 1).1
  have c2 := (cellD h 2).1
  clear h
  have HG1 := Lib.hid (show ∀ q, Calls Tryz.prog 243 #[.int .i64 0] (w.drewN q) fun e w' => e = .returned (.int .i64 1) ∧ ∃ m, w' = w.drewN m from fun q => Calls.quiet_of_same (tnum_calls _ 0 (by omega)))
  have HG2 := Lib.hid (show ∀ q, Calls Tryz.prog 225 #[.pointer none] (w.drewN q) fun e w' => e = .returned (.int .i64 0) ∧ ∃ m, w' = w.drewN m from fun q => Calls.quiet_of_same (tlen_nil _))
  go_enter Tryz.func196, Tryz.ntmps196
  go_wp2
  go_quiet ((first | (go_at_call 243; with_reducible exact HG1.out _) | (go_at_call 225; with_reducible exact HG2.out _)))
  go_wp2
  go_ret
  exact ⟨rfl, below_dn _ _⟩
theorem up_nil (w : World) (l : Nat) : Calls Tryz.prog 218 #[.pointer none, .func (.yield l) #[] #[]] w fun e w' => e = .returned (.bool true) ∧ ∃ m, w' = w.drewN m := by
  go_enter Tryz.func218, Tryz.ntmps218
  go_wp2
  go_quiet ((fail))
  go_wp2
  go_ret
  exact ⟨rfl, _, rfl⟩
theorem all_calls (w : World) : Calls Tryz.prog 152 #[.pointer none] w fun e w' => e = .returned (.func (.func 217) #[] #[.pointer (some ⟨w.heap.size, 0, none⟩)]) ∧ w' = w.alloc (.cells #[.pointer none] 240) := by
  go_enter Tryz.func152, Tryz.ntmps152
  go_wp2
  go_ret
  exact ⟨rfl, rfl⟩
theorem all1_calls (w : World) (l b : Nat) (hb : w.cell? ⟨b, 0, none⟩ = some (.pointer none)) : Calls Tryz.prog 217 #[.func (.yield l) #[] #[], .pointer (some ⟨b, 0, none⟩)] w fun e w' => (∃ v, e = .returned v) ∧ ∃ m, w' = w.drewN m := by
  go_enter Tryz.func217, Tryz.ntmps217
  go_wp2_with (first
    | (go_at_call 218; refine (up_nil _ l).mono ?_; rintro e w' ⟨rfl, m, rfl⟩))
  first | go_end0 | refine bodyPost_ret (results_none rfl _ _ _) rfl ?_
  exact ⟨⟨_, rfl⟩, _, rfl⟩
end Go.Proofs.YtokflmiijdpchaaGreat
