/- The walk of KeysNumbers. -/
import Derived.Test.YtplfmpcoojkjlaaDoorK55
import Derived.Test.YtplfmpcoojkjlaaDoorK46
import Derived.OpenShut
namespace Go.Proofs.YtplfmpcoojkjlaaDoor
open Go.RowKit Go.Proofs.YtplfmpcoojkjlaaDoorW.PrintWords
def litN (s : VS) : List (LT VS) := [.mk s ⟨none, 0⟩ [] ⟨none, 0⟩ []]
def litP (s : VS) : List (TT PS) := [.mk s.ps [] []]
theorem litN_good (w : World) (s : VS) (t : TypeId) (hf : s.fit []) : Good (w.alloc (.cells (rowCells VS.enc (litN s)).toArray t)) (some ⟨w.heap.size, 0, none⟩) (litN s) (litP s) :=
  lit_good w (litN s) (litP s) t (fun p hp => by rw [List.mem_singleton.1 hp]; exact rd_plain _ _) (by simp [litN]) rfl ⟨⟨hf, trivial⟩, trivial⟩
theorem lit_cmpS (s t : VS) (hs : 1 ≤ s.kind ∧ s.kind ≤ 6) (ht : 1 ≤ t.kind ∧ t.kind ≤ 6) : cmpS (litP s) (litP t) = (cmpT (.mk s.ps [] []) (.mk t.ps [] []), 0) := by
  have h1 : TT.flts PS.kind (litP s) 0 = 0 := by
    show (if (if s.kind < 1 ∨ 7 < s.kind then (40 : Int) else _) = 0 then _ else _) = _
    rw [if_neg (show ¬ (s.kind < 1 ∨ 7 < s.kind) by omega), if_neg (show ¬ s.ps.kind = 7 by show ¬ s.kind = 7; omega)]
    rfl
  have h2 : TT.flts PS.kind (litP t) 0 = 0 := by
    show (if (if t.kind < 1 ∨ 7 < t.kind then (40 : Int) else _) = 0 then _ else _) = _
    rw [if_neg (show ¬ (t.kind < 1 ∨ 7 < t.kind) by omega), if_neg (show ¬ t.ps.kind = 7 by show ¬ t.kind = 7; omega)]
    rfl
  rw [cmpS_3 h1 h2]
  congr 1
  show (if cmpT (.mk s.ps [] []) (.mk t.ps [] []) = 0 then (0 : Int) else cmpT (.mk s.ps [] []) (.mk t.ps [] [])) = _
  split
  · rename_i h; exact h.symm
  · rfl
/-- Two rows of one value each, laid by literals, held against each other. -/
theorem lit_cmp (w : World) (s t : VS) (r : Int) (hs : 1 ≤ s.kind ∧ s.kind ≤ 6) (ht : 1 ≤ t.kind ∧ t.kind ≤ 6) (fs : s.fit []) (ft : t.fit []) (hr : cmpT (.mk s.ps [] []) (.mk t.ps [] []) = r) :
    Calls Tryd.prog 22 #[.slice (some ⟨w.heap.size, 0, none⟩) 1 1, .slice (some ⟨w.heap.size + 1, 0, none⟩) 1 1] ((w.alloc (.cells (rowCells VS.enc (litN s)).toArray 46)).alloc (.cells (rowCells VS.enc (litN t)).toArray 46))
      fun e w' => e = .returned (.tuple #[.int .i64 r, .int .i64 0]) ∧ Below w.heap.size w w' := by
  have g1 := litN_good w s 46 fs
  have g2 := litN_good (w.alloc (.cells (rowCells VS.enc (litN s)).toArray 46)) t 46 ft
  have e : (w.alloc (.cells (rowCells VS.enc (litN s)).toArray 46)).heap.size = w.heap.size + 1 := by simp
  have hc := cmp_any g1 g2 1 1 _ ((Below.refl _ _).alloc (Nat.le_refl _) _) (Below.refl _ _)
  unfold CmpP at hc
  rw [lit_cmpS s t hs ht, hr, e] at hc
  refine hc.mono fun e' w' ⟨h1, h2⟩ => ⟨h1, ?_⟩
  exact (((Below.refl _ _).alloc (Nat.le_refl _) _).alloc (by simp) _).trans (h2.mono (by simp; omega))
theorem cmp_int1 (a b : Int) : cmpT (.mk (⟨3, false, a, 0, 0, 0⟩ : VS).ps [] []) (.mk (⟨3, false, b, 0, 0, 0⟩ : VS).ps [] []) = sgn a b := by
  simp [VS.ps, cmpT, TT.s]
theorem cmp_real1 (x y : Nat) : cmpT (.mk (⟨4, false, 0, x, 0, 0⟩ : VS).ps [] []) (.mk (⟨4, false, 0, y, 0, 0⟩ : VS).ps [] []) = sgn (rankB x) (rankB y) := by
  simp [VS.ps, cmpT, TT.s]
theorem cmp_point1 (x y : Nat) : cmpT (.mk (⟨5, false, 0, 0, 4607182418800017408, x⟩ : VS).ps [] []) (.mk (⟨5, false, 0, 0, 4607182418800017408, y⟩ : VS).ps [] []) = sgn (rankB x) (rankB y) := by
  simp only [VS.ps, cmpT, TT.s]
  simp [sgn]
set_option maxRecDepth 100000 in
set_option maxHeartbeats 8000000 in
theorem numbers_calls (w : World) (a : Int) (ha : (Lit.int .i64 a).wf = true) (b : Int) (hb : (Lit.int .i64 b).wf = true) (x : Int) (hx : (Lit.int .u64 x).wf = true) (y : Int) (hy : (Lit.int .u64 y).wf = true) :
    Calls Tryd.prog 6 #[.int .i64 a, .int .i64 b, .int .u64 x, .int .u64 y] w fun e w' => e = .returned (.bool true) ∧ Below w.heap.size w w' := by
  have ga := bounds_i64 ha
  have gb := bounds_i64 hb
  have gx := bounds_u64 hx
  have gy := bounds_u64 hy
  clear ha hb hx hy
  obtain ⟨x, rfl⟩ := Int.eq_ofNat_of_zero_le gx.1
  obtain ⟨y, rfl⟩ := Int.eq_ofNat_of_zero_le gy.1
  have hx : x < 18446744073709551616 := by omega
  have hy : y < 18446744073709551616 := by omega
  have HB := Lib.hid (show _ ∧ _ ∧ _ ∧ _ from ⟨ga, gb, hx, hy⟩)
  clear ga gb gx gy hx hy
  go_enter Tryd.func6, Tryd.ntmps6
  go_wp2_with fail
  refine (awake_calls w).mono ?_
  rintro e w1 ⟨rfl, hb1⟩
  have H1 := Lib.hid hb1
  clear hb1
  go_wp2_with fail
  have hc1 := lit_cmp w1 ⟨3, false, a, 0, 0, 0⟩ ⟨3, false, b, 0, 0, 0⟩ _ ⟨(by decide : (1 : Int) ≤ 3), (by decide : (3 : Int) ≤ 6)⟩ ⟨(by decide : (1 : Int) ≤ 3), (by decide : (3 : Int) ≤ 6)⟩ ⟨(by decide : 0 < 18446744073709551616), (by decide : 0 < 18446744073709551616), (by decide : 0 < 18446744073709551616), Byt.nil, HB.out.1⟩ ⟨(by decide : 0 < 18446744073709551616), (by decide : 0 < 18446744073709551616), (by decide : 0 < 18446744073709551616), Byt.nil, HB.out.2.1⟩ (cmp_int1 a b)
  refine hc1.mono ?_
  rintro e w2 ⟨rfl, hb2⟩
  have H2 := Lib.hid (H1.out.trans (hb2.mono H1.out.size))
  clear hb2 hc1
  have hfb := run_frombits
  go_upto_region 5 with (fail)
  clear hfb
  generalize hD : sgn (rankB x : Int) (rankB y) = D
  have hc2 := lit_cmp w2 ⟨4, false, 0, x, 0, 0⟩ ⟨4, false, 0, y, 0, 0⟩ D ⟨(by decide : (1 : Int) ≤ 4), (by decide : (4 : Int) ≤ 6)⟩ ⟨(by decide : (1 : Int) ≤ 4), (by decide : (4 : Int) ≤ 6)⟩ ⟨HB.out.2.2.1, (by decide : 0 < 18446744073709551616), (by decide : 0 < 18446744073709551616), Byt.nil, (by decide : -9223372036854775808 ≤ (0 : Int)), (by decide : (0 : Int) ≤ 9223372036854775807)⟩ ⟨HB.out.2.2.2, (by decide : 0 < 18446744073709551616), (by decide : 0 < 18446744073709551616), Byt.nil, (by decide : -9223372036854775808 ≤ (0 : Int)), (by decide : (0 : Int) ≤ 9223372036854775807)⟩ ((cmp_real1 x y).trans hD)
  have hc3 := fun w => lit_cmp w ⟨5, false, 0, 0, 4607182418800017408, x⟩ ⟨5, false, 0, 0, 4607182418800017408, y⟩ D ⟨(by decide : (1 : Int) ≤ 5), (by decide : (5 : Int) ≤ 6)⟩ ⟨(by decide : (1 : Int) ≤ 5), (by decide : (5 : Int) ≤ 6)⟩ ⟨(by decide : 0 < 18446744073709551616), (by decide : 4607182418800017408 < 18446744073709551616), HB.out.2.2.1, Byt.nil, (by decide : -9223372036854775808 ≤ (0 : Int)), (by decide : (0 : Int) ≤ 9223372036854775807)⟩ ⟨(by decide : 0 < 18446744073709551616), (by decide : 4607182418800017408 < 18446744073709551616), HB.out.2.2.2, Byt.nil, (by decide : -9223372036854775808 ≤ (0 : Int)), (by decide : (0 : Int) ≤ 9223372036854775807)⟩ ((cmp_point1 x y).trans hD)
  have HD := Lib.hid hD
  have HC := Lib.hid (show _ ∧ _ from ⟨hc2, hc3⟩)
  clear hc2 hc3 hD
  go_wp2_with fail
  refine HC.out.1.mono ?_
  rintro e w3 ⟨rfl, hb3⟩
  have H3 := Lib.hid (H2.out.trans (hb3.mono H2.out.size))
  clear hb3
  go_wp2_with fail
  refine (HC.out.2 w3).mono ?_
  rintro e w4 ⟨rfl, hb4⟩
  have H4 := Lib.hid (H3.out.trans (hb4.mono H3.out.size))
  clear hb4 HC
  have hcl : (sgn a b == -1) = decide (a < b) := by
    unfold sgn
    by_cases h1 : a < b
    · simp [h1]
    · by_cases h2 : b < a <;> simp [h1, h2]
  have hcg : (sgn a b == 1) = decide (b < a) := by
    unfold sgn
    by_cases h1 : a < b
    · simp [h1]; omega
    · by_cases h2 : b < a <;> simp [h1, h2]
  generalize sgn a b = cc at *
  go_upto_block 0 with (fail)
  clear hcl hcg
  have ox := order_self x
  have oy := order_self y
  by_cases nx : x % top63 ≤ infB
  case neg =>
    rw [if_neg nx] at ox
    have rx := rank_nan nx
    by_cases ny : y % top63 ≤ infB
    case neg =>
      rw [if_neg ny] at oy
      have hd : D = 0 := by rw [← HD.out, rx, rank_nan ny]; simp [sgn]
      subst hd
      clear nx ny rx
      go_wp2
      go_ret
      exact ⟨rfl, H4.out⟩
    case pos =>
      rw [if_pos ny] at oy
      have hd : D = 1 := by
        rw [← HD.out, rx, rank_num HB.out.2.2.2 ny]
        unfold sgn top63 nanB infB at *
        split <;> split <;> (try split) <;> omega
      subst hd
      clear nx ny rx
      go_wp2
      go_ret
      exact ⟨rfl, H4.out⟩
  rw [if_pos nx] at ox
  by_cases ny : y % top63 ≤ infB
  case neg =>
    rw [if_neg ny] at oy
    have hd : D = -1 := by
      rw [← HD.out, rank_nan ny, rank_num HB.out.2.2.1 nx]
      unfold sgn top63 nanB infB at *
      split <;> split <;> (try split) <;> omega
    subst hd
    clear nx ny
    go_wp2
    go_ret
    exact ⟨rfl, H4.out⟩
  rw [if_pos ny] at oy
  have oxy := num_order x y HB.out.2.2.1 HB.out.2.2.2 nx ny
  rcases Int.lt_trichotomy (num x) (num y) with hlt | heq | hgt
  · rw [cmp_lt hlt] at oxy
    have hr := num_lt HB.out.2.2.1 HB.out.2.2.2 nx ny hlt
    have hd : D = -1 := by rw [← HD.out]; simp [sgn]; omega
    subst hd
    clear nx ny hlt hr
    go_wp2
    go_ret
    exact ⟨rfl, H4.out⟩
  · have ho : compare (num x) (num y) = .eq := by rw [heq, cmp_int, if_neg (by omega), if_pos rfl]
    rw [ho] at oxy
    rcases num_eq HB.out.2.2.1 HB.out.2.2.2 nx ny heq with h | ⟨zx, zy⟩
    · subst h
      have hd : D = 0 := by rw [← HD.out]; simp [sgn]
      subst hd
      clear nx ny heq ho
      go_wp2
      go_ret
      exact ⟨rfl, H4.out⟩
    · have hx := HB.out.2.2.1
      have hy := HB.out.2.2.2
      have ex : x = 0 ∨ x = 9223372036854775808 := by unfold top63 at zx; omega
      have ey : y = 0 ∨ y = 9223372036854775808 := by unfold top63 at zy; omega
      clear nx ny heq ho zx zy hx hy
      rcases ex with rfl | rfl <;> rcases ey with rfl | rfl
      · have hd : D = 0 := by rw [← HD.out]; simp [sgn]
        subst hd
        go_wp2
        go_ret
        exact ⟨rfl, H4.out⟩
      · have hd : D = 1 := by rw [← HD.out]; decide +kernel
        subst hd
        go_wp2
        go_ret
        exact ⟨rfl, H4.out⟩
      · have hd : D = -1 := by rw [← HD.out]; decide +kernel
        subst hd
        go_wp2
        go_ret
        exact ⟨rfl, H4.out⟩
      · have hd : D = 0 := by rw [← HD.out]; simp [sgn]
        subst hd
        go_wp2
        go_ret
        exact ⟨rfl, H4.out⟩
  · rw [cmp_gt hgt] at oxy
    have hr := num_lt HB.out.2.2.2 HB.out.2.2.1 ny nx hgt
    have hd : D = 1 := by rw [← HD.out]; simp [sgn]; omega
    subst hd
    clear nx ny hgt hr
    go_wp2
    go_ret
    exact ⟨rfl, H4.out⟩
end Go.Proofs.YtplfmpcoojkjlaaDoor
