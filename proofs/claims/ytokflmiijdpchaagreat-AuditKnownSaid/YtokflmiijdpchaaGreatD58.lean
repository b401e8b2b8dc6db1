/- The audit's tree and Differ. -/
import Derived.Test.YtokflmiijdpchaaGreatD49
import Derived.Test.YtokflmiijdpchaaGreatD52
import Derived.Test.YtokflmiijdpchaaGreatD57
namespace Go.Proofs.YtokflmiijdpchaaGreat
open Go.RowKit
attribute [local go_sem] Oper.semAt_some
theorem atree_own (w : World) (a n m : Nat) (H : Nat → Nat) (h : Aud w a n m H) (sv x : Nat) (hs : sv < n) (hx : x < m) (hm : m ≤ 64) (hh : sv = H x) : Calls Tryz.prog 24 #[.pointer (some ⟨a, 0, none⟩), .int .i64 sv, .int .i64 x] w fun r w' => ∃ T dg, r = .returned (.tuple #[.pointer (some ⟨T, 0, none⟩), .int .i64 0]) ∧ Tr w' T dg ∧ Dg dg ∧ Below w.heap.size w w' := by
  have HC := Lib.hid (acopy_own w a n m H h sv x hs hx hm hh)
  clear h hh
  go_enter Tryz.func24, Tryz.ntmps24
  go_wp2_with (first
    | (go_at_call 10; refine HC.out.mono ?_; rintro y w1 ⟨g, rfl, h1, h2, h3, h4⟩; have H1 := Lib.hid (show _ ∧ _ from ⟨h2, h4⟩); have HI := Lib.hid (simport_calls w1 g h3 h1); clear h1 h2 h3 h4)
    | (go_at_call 45; refine HI.out.mono ?_; rintro y w2 ⟨s, t, rfl, h1, h2⟩; have H2 := Lib.hid (show _ ∧ _ from ⟨h1, H1.out.2.trans (h2.mono H1.out.2.size)⟩); clear h1 h2)
    | (go_at_call 47; refine (srows_calls w2 s t H2.out.1).mono ?_; rintro y w3 ⟨rfl, h2⟩; have H3 := Lib.hid (H2.out.2.trans (h2.mono H2.out.2.size)); clear h2)
    | (go_at_call 46; refine (mnew_calls w3).mono ?_; rintro y w4 ⟨T, dg, rfl, h1, h2, h3, h4, h5, -⟩; have H4 := Lib.hid (show _ ∧ _ ∧ _ from ⟨h1, (⟨h2, h3, h4⟩ : Dg dg), H3.out.trans (h5.mono H3.out.size)⟩); clear h1 h2 h3 h4 h5))
  go_ret2
  exact ⟨T, dg, rfl, H4.out⟩
theorem atree_none (w : World) (a n m : Nat) (H : Nat → Nat) (h : Aud w a n m H) (sv x : Nat) (hs : sv < n) (hx : x < m) (hm : m ≤ 64) (hh : sv ≠ H x) : Calls Tryz.prog 24 #[.pointer (some ⟨a, 0, none⟩), .int .i64 sv, .int .i64 x] w fun r w' => r = .returned (.tuple #[.pointer none, .int .i64 290]) ∧ Below w.heap.size w w' := by
  have HC := Lib.hid (acopy_none w a n m H h sv x hs hx hm hh)
  clear h hh
  go_enter Tryz.func24, Tryz.ntmps24
  go_wp2_with (first
    | (go_at_call 10; refine HC.out.mono ?_; rintro y w1 ⟨rfl, h4⟩; have H1 := Lib.hid h4; clear h4))
  go_ret2
  exact ⟨rfl, H1.out⟩
/-- Two copies of one server: no line. -/
theorem adiffer_same (w : World) (a n m : Nat) (H : Nat → Nat) (h : Aud w a n m H) (x sv : Nat) (hs : sv < n) (hx : x < m) (hm : m ≤ 64) (hh : sv = H x) : Calls Tryz.prog 8 #[.pointer (some ⟨a, 0, none⟩), .int .i64 x, .int .i64 sv, .int .i64 sv] w fun r w' => r = .returned (.tuple #[.slice none 0 0, .int .i64 0]) ∧ Below w.heap.size w w' := by
  have HA := Lib.hid h
  have HT := Lib.hid fun W (hW : Aud W a n m H) => atree_own W a n m H hW sv x hs hx hm hh
  clear h hh
  go_enter Tryz.func8, Tryz.ntmps8
  go_upto_region 10 with (first
    | (go_at_call 23; refine (aat_true w a n m H HA.out sv x hs hx).mono ?_; rintro y w' ⟨⟨e, rfl, -⟩, hw⟩; obtain rfl := hw.symm)
    | (go_at_call 24; refine (HT.out w HA.out).mono ?_; rintro y w1 ⟨T, dg, rfl, h1, h2, h3⟩; have H1 := Lib.hid (show _ ∧ _ ∧ _ from ⟨h1, h2, h3⟩); clear h1 h2 h3))
  go_wp2_with (first
    | (go_at_call 24; refine (HT.out w1 (HA.out.below H1.out.2.2)).mono ?_; rintro y w2 ⟨T2, dg2, rfl, h1, h2, h3⟩; have H2 := Lib.hid (show _ ∧ _ ∧ _ ∧ _ from ⟨h1, h2, H1.out.2.2.trans (h3.mono H1.out.2.2.size), H1.out.1.below h3⟩); clear h1 h2 h3)
    | (go_at_call 25; refine (mdiff_calls w2 T T2 dg dg2 H2.out.2.2.2 H2.out.1 H1.out.2.1 H2.out.2.1).mono ?_; rintro y w3 ⟨rfl, h3⟩; have H3 := Lib.hid (H2.out.2.2.1.trans (h3.mono H2.out.2.2.1.size)); clear h3))
  go_ret2
  exact ⟨rfl, H3.out⟩
theorem adiffer_apart (w : World) (a n m : Nat) (H : Nat → Nat) (h : Aud w a n m H) (x one other : Nat) (hs : one < n) (ho : other < n) (hx : x < m) (hm : m ≤ 64) (h1 : one = H x) (h2 : other ≠ H x) : Calls Tryz.prog 8 #[.pointer (some ⟨a, 0, none⟩), .int .i64 x, .int .i64 one, .int .i64 other] w fun r w' => r = .returned (.tuple #[.slice none 0 0, .int .i64 290]) ∧ Below w.heap.size w w' := by
  have HA := Lib.hid (show _ ∧ _ ∧ _ from ⟨aat_true w a n m H h one x hs hx, aat_true w a n m H h other x ho hx, h⟩)
  have HT := Lib.hid (atree_own w a n m H h one x hs hx hm h1)
  have HN := Lib.hid fun W (hW : Aud W a n m H) => atree_none W a n m H hW other x ho hx hm h2
  clear h h1 h2
  go_enter Tryz.func8, Tryz.ntmps8
  go_upto_region 4 with (first
    | (go_at_call 23; refine HA.out.1.mono ?_; rintro y w' ⟨⟨e, rfl, -⟩, hw⟩; obtain rfl := hw.symm))
  go_upto_region 10 with (first
    | (go_at_call 23; refine HA.out.2.1.mono ?_; rintro y w' ⟨⟨e2, rfl, -⟩, hw⟩; obtain rfl := hw.symm)
    | (go_at_call 24; refine HT.out.mono ?_; rintro y w1 ⟨T, dg, rfl, -, -, h3⟩; have H1 := Lib.hid h3; clear h3))
  go_wp2_with (first
    | (go_at_call 24; refine (HN.out w1 (HA.out.2.2.below H1.out)).mono ?_; rintro y w2 ⟨rfl, h3⟩; have H2 := Lib.hid (H1.out.trans (h3.mono H1.out.size)); clear h3))
  go_ret2
  exact ⟨rfl, H2.out⟩
theorem adiffer_bad (w : World) (a x one other : Value) (k : Int) (hk : k = 1 ∨ k = 2) (h : Bad w a one x k) : Calls Tryz.prog 8 #[a, x, one, other] w fun r w' => r = .returned (.tuple #[.slice none 0 0, .int .i64 k]) ∧ w' = w := by
  have HA := Lib.hid h
  clear h
  rcases hk with rfl | rfl
  all_goals
    go_enter Tryz.func8, Tryz.ntmps8
    go_wp2_with (first
      | (go_at_call 23; refine (show Calls _ _ _ _ _ from HA.out).mono ?_; rintro y w' ⟨rfl, hw⟩; obtain rfl := hw.symm))
    go_ret2
    exact ⟨rfl, rfl⟩
theorem adiffer_other (w : World) (a n m : Nat) (H : Nat → Nat) (h : Aud w a n m H) (x one other : Nat) (hs : one < n) (ho : n ≤ other) (hx : x < m) : Calls Tryz.prog 8 #[.pointer (some ⟨a, 0, none⟩), .int .i64 x, .int .i64 one, .int .i64 other] w fun r w' => r = .returned (.tuple #[.slice none 0 0, .int .i64 2]) ∧ w' = w := by
  have HA := Lib.hid (show _ ∧ _ from ⟨aat_true w a n m H h one x hs hx, aat_server w a n m H h other x ho⟩)
  clear h
  go_enter Tryz.func8, Tryz.ntmps8
  go_upto_region 4 with (first
    | (go_at_call 23; refine HA.out.1.mono ?_; rintro y w' ⟨⟨e, rfl, -⟩, hw⟩; obtain rfl := hw.symm))
  go_wp2_with (first
    | (go_at_call 23; refine HA.out.2.mono ?_; rintro y w' ⟨rfl, hw⟩; obtain rfl := hw.symm))
  go_ret2
  exact ⟨rfl, rfl⟩
end Go.Proofs.YtokflmiijdpchaaGreat
