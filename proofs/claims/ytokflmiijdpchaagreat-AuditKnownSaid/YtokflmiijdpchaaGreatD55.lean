/- merkle: the digest of an empty bucket, and of a pair. -/
import Derived.Test.YtokflmiijdpchaaGreatD40
namespace Go.Proofs.YtokflmiijdpchaaGreat
open Go.RowKit
attribute [local go_sem] Oper.semAt_some
theorem fstep_range (h b : Int) : 0 ≤ fstep h b ∧ fstep h b < 18446744073709551616 := by
  simp only [fstep, IntKind.wrap, IntKind.signed, IntKind.bits]
  simp
  omega
theorem fnv_range (xs : List Int) : 0 ≤ fnv xs ∧ fnv xs < 18446744073709551616 := by
  rcases List.eq_nil_or_concat xs with rfl | ⟨ys, y, rfl⟩
  · exact ⟨by decide, by decide⟩
  · rw [fnv, List.concat_eq_append, List.foldl_append]
    exact fstep_range _ _
set_option maxRecDepth 100000 in
theorem cut_calls (w : World) (b room : Nat) (xs : List Int) (U : Nat → Prop) (h : Wr w b room (By8 xs) U) (hne : xs ≠ []) (hm : xs.length ≤ 1048576) : Calls Tryz.prog 151 #[.pointer (some ⟨b, 0, none⟩), .int .i64 64] w fun e w' => e = .returned (.int .u64 (fnv xs)) ∧ Below w.heap.size w w' := by
  have HD := Lib.hid (done_calls w b room (By8 xs) U h (by simpa [By8] using hne) (by simp [By8]; omega) (by simp [By8, Value.oneCell']))
  have hl : (By8 xs).length = xs.length := by simp [By8]
  have HR := Lib.hid (fnv_range xs)
  clear h
  go_enter Tryz.func151, Tryz.ntmps151
  go_wp2_with (first
    | (go_at_call 141; refine HD.out.mono ?_; rintro e w1 ⟨g, rfl, hr1, hb1, hg1, hg1'⟩; have H1 := Lib.hid (show _ ∧ _ from ⟨hr1, hb1⟩); clear hr1 hb1)
    | (go_at_call 126; refine (fnv_calls _ w1.heap.size g _ _ (cellD (heap_alloc_new w1 _) 0).1 xs rfl hm (range_below H1.out.1 ((Below.refl _ _).alloc (Nat.le_refl _) _) hg1')).mono ?_; rintro e w' ⟨rfl, hw⟩; obtain rfl := hw.symm))
  have hw : IntKind.u64.wrap (fnv xs) = fnv xs := by
    have := HR.out
    simp only [IntKind.wrap, IntKind.signed, IntKind.bits]
    simp
    omega
  rw [hw]
  go_ret
  exact ⟨rfl, H1.out.2.alloc H1.out.2.size _⟩
/-- The digest of an empty bucket. -/
def dig0 : Int := fnv [2]
set_option maxRecDepth 100000 in
theorem ofBucket_calls (w : World) : Calls Tryz.prog 90 #[.slice none 0 0, .int .i64 64] w fun e w' => e = .returned (.int .u64 dig0) ∧ Below w.heap.size w w' := by
  go_enter Tryz.func90, Tryz.ntmps90
  go_upto_region 2 with ((go_at_call 137; refine (pnew_calls _ 1).mono ?_; rintro e w2 ⟨rfl, hw2, hb2⟩; have H2 := Lib.hid (show _ ∧ _ from ⟨hw2, hb2⟩); clear hw2 hb2))
  go_wp2_with ((go_at_call 138; refine (byte_calls w2 w.heap.size 1 [] _ H2.out.1 (by decide) 2 (by decide) (by decide)).mono ?_; rintro e w3 ⟨rfl, hw3, hk3⟩; have H3 := Lib.hid (show Wr w3 w.heap.size 1 (By8 [2]) (· < w.heap.size) ∧ _ from ⟨hw3, hk3⟩); clear hw3 hk3))
  go_loopw [17] (fun i wr => i = .int .i64 0 ∧ wr = w3) (fun _ _ => 0)
  case atStart => exact ⟨rfl, rfl⟩
  case round =>
    obtain ⟨rfl, rfl⟩ := hrel
    go_wp2_with ((go_at_call 151; refine (cut_calls _ w.heap.size 1 [2] _ H3.out.1 (by simp) (by decide)).mono ?_; rintro e w4 ⟨rfl, hb4⟩; have H4 := Lib.hid hb4; clear hb4))
    go_ret
    exact ⟨rfl, (H2.out.2.trans H3.out.2.to_below).trans (H4.out.mono (by have := H2.out.2.size; have := H3.out.2.size; omega))⟩
/-- A number's lowest bytes as numbers. -/
def li (n : Nat) : Nat → List Int
  | 0 => []
  | k + 1 => ((n % 256 : Nat) : Int) :: li (n / 256) k
theorem le_li (n k : Nat) : le n k = By8 (li n k) := by
  induction k generalizing n with
  | zero => rfl
  | succ k ih => rw [le, ih]; rfl
theorem li_length (n k : Nat) : (li n k).length = k := by
  induction k generalizing n with
  | zero => rfl
  | succ k ih => simp [li, ih]
/-- The digest over two. -/
def pairD (l r : Nat) : Int := fnv (3 :: (li l 8 ++ li r 8))
set_option maxRecDepth 100000 in
set_option maxHeartbeats 2000000 in
theorem ofPair_calls (w : World) (l r : Nat) (hl : l < 18446744073709551616) (hr : r < 18446744073709551616) : Calls Tryz.prog 91 #[.int .u64 l, .int .u64 r, .int .i64 64] w fun e w' => e = .returned (.int .u64 (pairD l r)) ∧ Below w.heap.size w w' := by
  have hlen : ([Value.int .u8 3] ++ le l 8).length = 9 := by simp [le_length]
  have hby : ([Value.int .u8 3] ++ le l 8) ++ le r 8 = By8 (3 :: (li l 8 ++ li r 8)) := by rw [le_li, le_li]; simp [By8]
  have HH := Lib.hid (show _ ∧ _ ∧ _ ∧ _ from ⟨hlen, hby, hl, hr⟩)
  clear hlen hby hl hr
  go_enter Tryz.func91, Tryz.ntmps91
  go_wp2_with (first
    | (go_at_call 137; refine (pnew_calls _ 17).mono ?_; rintro e w2 ⟨rfl, hw2, hb2⟩; have H2 := Lib.hid (show _ ∧ _ from ⟨hw2, hb2⟩); clear hw2 hb2)
    | (go_at_call 138; refine (byte_calls w2 w.heap.size 17 [] _ H2.out.1 (by decide) 3 (by decide) (by decide)).mono ?_; rintro e w3 ⟨rfl, hw3, hk3⟩; have H3 := Lib.hid (show Wr w3 w.heap.size 17 [.int .u8 3] (· < w.heap.size) ∧ _ from ⟨hw3, hk3⟩); have HF := Lib.hid (fixed8_calls w3 w.heap.size 17 _ _ H3.out.1 (by decide) l HH.out.2.2.1 (by simp)); clear hw3 hk3)
    | (go_at_call 139; first
        | (refine HF.out.mono ?_; rintro e w4 ⟨rfl, hw4, hk4⟩; clear HF; have H4 := Lib.hid (show _ ∧ _ from ⟨hw4, H3.out.2.trans hk4⟩); clear hw4 hk4)
        | (refine (fixed8_calls w4 w.heap.size 17 _ _ H4.out.1 (by decide) r HH.out.2.2.2 (by rw [HH.out.1]; decide)).mono ?_; rintro e w5 ⟨rfl, hw5, hk5⟩; rw [HH.out.2.1] at hw5; have H5 := Lib.hid (show _ ∧ _ from ⟨hw5, H4.out.2.trans hk5⟩); clear hw5 hk5))
    | (go_at_call 151; refine (cut_calls w5 w.heap.size 17 _ _ H5.out.1 (by simp) (by simp [li_length])).mono ?_; rintro e w6 ⟨rfl, hb6⟩; have H6 := Lib.hid hb6; clear hb6))
  go_ret
  exact ⟨rfl, (H2.out.2.trans H5.out.2.to_below).trans (H6.out.mono (by have := H2.out.2.size; have := H5.out.2.size; omega))⟩
end Go.Proofs.YtokflmiijdpchaaGreat
