/- The walks of the document's sign, rank, reals, texts. -/
import Derived.Test.YtplfmpcoojkjlaaK22
import Derived.Test.YtplfmpcoojkjlaaK31
import Derived.BigQuiet
import Derived.Deep.QuietTactic
namespace Go.Proofs.Ytplfmpcoojkjlaa
open Go.RowKit Go.Proofs.YtplfmpcoojkjlaaW.PrintWords
/-- A call within a quiet region, draws before it. -/
theorem quiet_on {P : Program} {f : FuncId} {args : Array Value} {w : World} {a n : Nat} {v : Value} (h : Calls P f args (w.drewN (a + n)) fun e w' => e = .returned v ∧ w' = w.drewN (a + n)) : Calls P f args (w.drewN (a + n)) fun e w'' => e = .returned v ∧ ∃ m, w'' = w.drewN (a + m) :=
  h.mono fun _ _ k => ⟨k.1, n, k.2⟩
theorem quiet_on_drew {P : Program} {f : FuncId} {args : Array Value} {w : World} {a n : Nat} {v : Value} (h : Calls P f args (w.drewN (a + n)) fun e w' => e = .returned v ∧ ∃ m, w' = (w.drewN (a + n)).drewN m) : Calls P f args (w.drewN (a + n)) fun e w'' => e = .returned v ∧ ∃ m, w'' = w.drewN (a + m) :=
  h.mono fun _ _ ⟨k, m, hm⟩ => ⟨k, n + m, by rw [hm, World.drewN_drewN, Nat.add_assoc]⟩
theorem sign_calls (w : World) (a b : Bool) :
    Calls Try.prog 35 #[.bool a, .bool b] w fun e w' => e = .returned (.int .i64 (if a then -1 else if b then 1 else 0)) ∧ w' = w := by
  cases a <;> cases b
  all_goals
    go_enter Try.func35, Try.ntmps35
    go_wp2
    go_ret
    exact ⟨rfl, rfl⟩
theorem sign_sgn (w : World) (x y : Int) :
    Calls Try.prog 35 #[.bool (decide (x < y)), .bool (decide (y < x))] w fun e w' => e = .returned (.int .i64 (sgn x y)) ∧ w' = w := by
  refine (sign_calls w _ _).mono ?_
  rintro e w' ⟨rfl, rfl⟩
  refine ⟨?_, rfl⟩
  congr 2
  unfold sgn
  by_cases h1 : x < y <;> by_cases h2 : y < x <;> simp [h1, h2]
theorem sign_len (w : World) (x y : Nat) :
    Calls Try.prog 35 #[.bool (decide (x < y)), .bool (decide (y < x))] w fun e w' => e = .returned (.int .i64 (sgn x y)) ∧ w' = w := by
  refine (sign_calls w _ _).mono ?_
  rintro e w' ⟨rfl, rfl⟩
  refine ⟨?_, rfl⟩
  congr 2
  unfold sgn
  by_cases h1 : x < y <;> by_cases h2 : y < x <;> simp [h1, h2]
theorem sign_ne (w : World) (x y : Int) (h : x ≠ y) :
    Calls Try.prog 35 #[.bool (decide (x < y)), .bool true] w fun e w' => e = .returned (.int .i64 (sgn x y)) ∧ w' = w := by
  refine (sign_calls w _ _).mono ?_
  rintro e w' ⟨rfl, rfl⟩
  refine ⟨?_, rfl⟩
  congr 2
  unfold sgn
  by_cases h1 : x < y
  · simp [h1]
  · rw [if_neg (by simpa using h1), if_pos rfl, if_neg h1, if_pos (by omega)]
theorem cleanB_lt (b : Nat) (h : b < 18446744073709551616) : cleanB b < 18446744073709551616 := by
  unfold cleanB nanB; split <;> omega
set_option maxRecDepth 100000 in
theorem rrank_calls (w : World) (b : Nat) (hb : b < 18446744073709551616) :
    Calls Try.prog 49 #[.int .u64 b] w fun e w' => e = .returned (.int .i64 ((rankB b : Int) - 9223372036854775808)) ∧ w' = w := by
  have hc := cleanB_lt b hb
  have hr : ((rankB b : Nat) : Int) - 9223372036854775808 = if (cleanB b : Int) < 9223372036854775808 then (cleanB b : Int) else -1 - ((cleanB b : Int) - 9223372036854775808) := by
    unfold rankB top63
    split <;> split <;> omega
  have HCC := Lib.hid (clean_calls w b hb)
  rw [hr]
  clear hr
  have hc0 : (0 : Int) ≤ (cleanB b : Int) := by omega
  have hc1 : (cleanB b : Int) ≤ 18446744073709551615 := by omega
  clear hc hb
  generalize (cleanB b : Int) = n at *
  by_cases h : n < 9223372036854775808
  · rw [if_pos h]
    go_enter Try.func49, Try.ntmps49
    go_wp2_with fail
    refine HCC.out.mono ?_
    rintro e w' ⟨rfl, rfl⟩
    go_wp2
    go_ret
    exact ⟨rfl, rfl⟩
  · rw [if_neg h]
    go_enter Try.func49, Try.ntmps49
    go_wp2_with fail
    refine HCC.out.mono ?_
    rintro e w' ⟨rfl, rfl⟩
    go_wp2
    go_ret
    exact ⟨rfl, rfl⟩
set_option maxRecDepth 100000 in
theorem reals_calls (w : World) (a b : Nat) (ha : a < 18446744073709551616) (hb : b < 18446744073709551616) :
    Calls Try.prog 40 #[.int .u64 a, .int .u64 b] w fun e w' => e = .returned (.int .i64 (sgn (rankB a) (rankB b))) ∧ w' = w := by
  have h1 := fun w => rrank_calls w a ha
  have h2 := fun w => rrank_calls w b hb
  have hs : sgn (rankB a) (rankB b) = sgn ((rankB a : Int) - 9223372036854775808) ((rankB b : Int) - 9223372036854775808) := by
    unfold sgn; simp only [Int.sub_lt_sub_right_iff]
  rw [hs]
  clear hs
  generalize (rankB a : Int) - 9223372036854775808 = x at *
  generalize (rankB b : Int) - 9223372036854775808 = y at *
  have HS := Lib.hid (show _ ∧ _ ∧ _ from ⟨h1, h2, fun w => sign_sgn w x y⟩)
  clear h1 h2
  go_enter Try.func40, Try.ntmps40
  go_wp2_with fail
  refine (HS.out.1 _).mono ?_
  rintro e w' ⟨rfl, rfl⟩
  go_wp2_with fail
  refine (HS.out.2.1 _).mono ?_
  rintro e w' ⟨rfl, rfl⟩
  go_wp2_with fail
  refine (HS.out.1 _).mono ?_
  rintro e w' ⟨rfl, rfl⟩
  go_wp2_with fail
  refine (HS.out.2.1 _).mono ?_
  rintro e w' ⟨rfl, rfl⟩
  go_wp2_with fail
  refine (HS.out.2.2 _).mono ?_
  rintro e w' ⟨rfl, rfl⟩
  go_wp2
  go_ret
  exact ⟨rfl, rfl⟩
set_option maxRecDepth 100000 in
set_option maxHeartbeats 1000000 in
theorem texts_calls (w : World) (A B : Option Addr) (xs ys : List Int) (c d : Nat) (hr : Row w A (nums8 xs)) (hs : Row w B (nums8 ys)) (hm : xs.length ≤ 9223372036854775807) (hm2 : ys.length ≤ 9223372036854775807) :
    Calls Try.prog 41 #[.slice A xs.length c, .slice B ys.length d] w fun e w' => e = .returned (.int .i64 (cmpX xs ys)) ∧ Drawn0 w w' := by
  have HR := Lib.hid hr
  have HS := Lib.hid hs
  clear hr hs
  have HSG := Lib.hid (show _ ∧ _ from ⟨fun w => sign_len w xs.length ys.length, fun w => sign_ne w⟩)
  go_enter Try.func41, Try.ntmps41
  go_wp2
  go_loopw [5] (fun vi wr => ∃ k : Nat, k ≤ xs.length ∧ k ≤ ys.length ∧ vi = .int .i64 k ∧ Drawn0 w wr ∧ cmpX xs ys = cmpX (xs.drop k) (ys.drop k)) (fun vi _ => xs.length - (intOf vi).toNat)
  case atStart => exact ⟨0, by omega, by omega, rfl, Drawn0.refl _, rfl⟩
  case round =>
    obtain ⟨k, hk, hk2, rfl, hw, htk⟩ := hrel
    have HW := Lib.hid hw
    have hbw := hw.below
    have HBW := Lib.hid hbw
    clear hw hbw
    have HT := Lib.hid htk
    clear htk
    by_cases hlt : k < xs.length
    · by_cases hlt2 : k < ys.length
      · obtain ⟨b, o, rfl, hblt, hcs⟩ := (HR.out.below HBW.out).get (by intro e; have h2 := congrArg List.length e; rw [nums8_length] at h2; have h3 : xs.length = 0 := h2; omega)
        obtain ⟨b2, o2, rfl, hblt2, hcs2⟩ := (HS.out.below HBW.out).get (by intro e; have h2 := congrArg List.length e; rw [nums8_length] at h2; have h3 : ys.length = 0 := h2; omega)
        have h1 : wr.cell? ⟨b, o + k, none⟩ = some (.int .u8 xs[k]) := hcs k _ (nums8_get xs k hlt)
        have h2 : wr.cell? ⟨b2, o2 + k, none⟩ = some (.int .u8 ys[k]) := hcs2 k _ (nums8_get ys k hlt2)
        have hx1 := List.drop_eq_getElem_cons hlt
        have hx2 := List.drop_eq_getElem_cons hlt2
        have hstep : cmpX xs ys = if xs[k] = ys[k] then cmpX (xs.drop (k + 1)) (ys.drop (k + 1)) else sgn xs[k] ys[k] := by
          rw [HT.out, hx1, hx2, cmpX]
        have HX := Lib.hid hstep
        clear hcs hcs2 hx1 hx2 hstep
        generalize xs[k] = x at *
        generalize ys[k] = y at *
        by_cases he : x = y
        · have heb : (x != y) = false := by simpa using he
          have HE := Lib.hid (HX.out.trans (if_pos he))
          clear he
          go_wp2
          go_quiet (fail)
          go_wp2
          go_roundw
          case rel => exact ⟨k + 1, by omega, by omega, by go_num, Drawn0.step HW.out _, HE.out⟩
          case measure => simp [intOf]; omega
        · have heb : (x != y) = true := by simpa using he
          have HE := Lib.hid (HX.out.trans (if_neg he))
          have HNE := Lib.hid he
          clear he
          go_wp2
          go_quiet (fail)
          go_wp2_with fail
          go_quiet ((go_at_call 35; exact quiet_on (HSG.out.2 _ x y HNE.out)))
          go_wp2
          go_ret
          exact ⟨by rw [HE.out]; rfl, Drawn0.step (Drawn0.step HW.out _) _⟩
      · go_wp2_with fail
        refine (HSG.out.1 _).mono ?_
        rintro e w' ⟨rfl, rfl⟩
        go_wp2
        go_ret
        have hky : ys.length = k := by omega
        have hx : cmpX xs ys = sgn (xs.length : Int) (ys.length : Int) := by
          rw [HT.out, cmpX_nil _ _ (Or.inr (List.drop_eq_nil_of_le (by omega))), List.length_drop, List.length_drop]
          unfold sgn
          split <;> split <;> (try split) <;> (try split) <;> omega
        exact ⟨by rw [hx]; rfl, HW.out⟩
    · go_wp2_with fail
      refine (HSG.out.1 _).mono ?_
      rintro e w' ⟨rfl, rfl⟩
      go_wp2
      go_ret
      have hx : cmpX xs ys = sgn (xs.length : Int) (ys.length : Int) := by
        rw [HT.out, cmpX_nil _ _ (Or.inl (List.drop_eq_nil_of_le (by omega))), List.length_drop, List.length_drop]
        unfold sgn
        split <;> split <;> (try split) <;> (try split) <;> omega
      exact ⟨by rw [hx]; rfl, HW.out⟩
end Go.Proofs.Ytplfmpcoojkjlaa
