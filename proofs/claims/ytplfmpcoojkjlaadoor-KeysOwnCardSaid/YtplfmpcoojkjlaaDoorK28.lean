/- The walks of what the program compares numbers and texts with. -/
import Derived.Test.YtplfmpcoojkjlaaDoorK22
import Derived.Test.YtplfmpcoojkjlaaDoorK3
import Derived.BigQuiet
import Derived.Deep.QuietTactic
namespace Go.Proofs.YtplfmpcoojkjlaaDoor
open Go.RowKit Go.Proofs.YtplfmpcoojkjlaaDoorW.PrintWords
set_option maxRecDepth 100000 in
theorem cmpI_calls (w : World) (x y : Int) : Calls Tryd.prog 50 #[.int .i64 x, .int .i64 y] w fun e w' => e = .returned (.int .i64 (sgn x y)) ∧ w' = w := by
  have HS := Lib.hid (show _ ∧ _ ∧ _ from ⟨fun h : x < y => (show sgn x y = -1 from if_pos h), fun (h : ¬ x < y) (k : y < x) => (show sgn x y = 1 from (if_neg h).trans (if_pos k)), fun (h : ¬ x < y) (k : ¬ y < x) => (show sgn x y = 0 from (if_neg h).trans (if_neg k))⟩)
  by_cases h : x < y
  · have hd : decide (x < y) = true := decide_eq_true h
    go_enter Tryd.func50, Tryd.ntmps50
    go_wp2
    go_ret
    exact ⟨by rw [HS.out.1 h]; rfl, rfl⟩
  · have hd : decide (x < y) = false := decide_eq_false h
    by_cases k : y < x
    · have hk : decide (y < x) = true := decide_eq_true k
      go_enter Tryd.func50, Tryd.ntmps50
      go_wp2
      go_ret
      exact ⟨by rw [HS.out.2.1 (by omega) (by omega)]; rfl, rfl⟩
    · have hk : decide (y < x) = false := decide_eq_false k
      go_enter Tryd.func50, Tryd.ntmps50
      go_wp2
      go_ret
      exact ⟨by rw [HS.out.2.2 (by omega) (by omega)]; rfl, rfl⟩
set_option maxRecDepth 100000 in
theorem cmpL_calls (w : World) (x y : Int) : Calls Tryd.prog 57 #[.int .i64 x, .int .i64 y] w fun e w' => e = .returned (.int .i64 (sgn x y)) ∧ w' = w := by
  have HS := Lib.hid (show _ ∧ _ ∧ _ from ⟨fun h : x < y => (show sgn x y = -1 from if_pos h), fun (h : ¬ x < y) (k : y < x) => (show sgn x y = 1 from (if_neg h).trans (if_pos k)), fun (h : ¬ x < y) (k : ¬ y < x) => (show sgn x y = 0 from (if_neg h).trans (if_neg k))⟩)
  by_cases h : x < y
  · have hd : decide (x < y) = true := decide_eq_true h
    go_enter Tryd.func57, Tryd.ntmps57
    go_wp2
    go_ret
    exact ⟨by rw [HS.out.1 h]; rfl, rfl⟩
  · have hd : decide (x < y) = false := decide_eq_false h
    by_cases k : y < x
    · have hk : decide (y < x) = true := decide_eq_true k
      go_enter Tryd.func57, Tryd.ntmps57
      go_wp2
      go_ret
      exact ⟨by rw [HS.out.2.1 (by omega) (by omega)]; rfl, rfl⟩
    · have hk : decide (y < x) = false := decide_eq_false k
      go_enter Tryd.func57, Tryd.ntmps57
      go_wp2
      go_ret
      exact ⟨by rw [HS.out.2.2 (by omega) (by omega)]; rfl, rfl⟩
set_option maxRecDepth 100000 in
theorem cmpU_calls (w : World) (x y : Int) : Calls Tryd.prog 58 #[.int .u64 x, .int .u64 y] w fun e w' => e = .returned (.int .i64 (sgn x y)) ∧ w' = w := by
  have HS := Lib.hid (show _ ∧ _ ∧ _ from ⟨fun h : x < y => (show sgn x y = -1 from if_pos h), fun (h : ¬ x < y) (k : y < x) => (show sgn x y = 1 from (if_neg h).trans (if_pos k)), fun (h : ¬ x < y) (k : ¬ y < x) => (show sgn x y = 0 from (if_neg h).trans (if_neg k))⟩)
  by_cases h : x < y
  · have hd : decide (x < y) = true := decide_eq_true h
    go_enter Tryd.func58, Tryd.ntmps58
    go_wp2
    go_ret
    exact ⟨by rw [HS.out.1 h]; rfl, rfl⟩
  · have hd : decide (x < y) = false := decide_eq_false h
    by_cases k : y < x
    · have hk : decide (y < x) = true := decide_eq_true k
      go_enter Tryd.func58, Tryd.ntmps58
      go_wp2
      go_ret
      exact ⟨by rw [HS.out.2.1 (by omega) (by omega)]; rfl, rfl⟩
    · have hk : decide (y < x) = false := decide_eq_false k
      go_enter Tryd.func58, Tryd.ntmps58
      go_wp2
      go_ret
      exact ⟨by rw [HS.out.2.2 (by omega) (by omega)]; rfl, rfl⟩
theorem byte_lt (x y : Int) (hx : 0 ≤ x ∧ x < 256) (hy : 0 ≤ y ∧ y < 256) : (x.toNat.toUInt8 < y.toNat.toUInt8) ↔ x < y := by
  rw [UInt8.lt_iff_toNat_lt]
  have h1 : x.toNat.toUInt8.toNat = x.toNat := by simp; omega
  have h2 : y.toNat.toUInt8.toNat = y.toNat := by simp; omega
  rw [h1, h2]
  omega
theorem cmpX_bytes : ∀ (xs ys : List Int), Byt xs → Byt ys → Lib.compareBytes (Lib.bytesOf xs) (Lib.bytesOf ys) = cmpX xs ys
  | [], [], _, _ => rfl
  | [], _ :: _, _, _ => rfl
  | _ :: _, [], _, _ => rfl
  | x :: xs, y :: ys, hx, hy => by
    have ih := cmpX_bytes xs ys hx.cons.2 hy.cons.2
    have h1 := byte_lt x y hx.cons.1 hy.cons.1
    have h2 := byte_lt y x hy.cons.1 hx.cons.1
    show (if x.toNat.toUInt8 < y.toNat.toUInt8 then (-1 : Int) else if y.toNat.toUInt8 < x.toNat.toUInt8 then 1 else Lib.compareBytes (Lib.bytesOf xs) (Lib.bytesOf ys)) = _
    rw [ih]
    simp only [h1, h2, cmpX, sgn]
    split <;> split <;> (try split) <;> (try rfl) <;> omega
theorem run_bytesOf_row {P : Program} {w : World} {A : Option Addr} {xs : List Int} (h : Row w A (nums8 xs)) (c : Nat) : (Extern.Bytes.bytesOf (.slice A xs.length c)).run P w = .ok ⟨(Lib.bytesOf xs).toArray⟩ w := by
  cases A with
  | none =>
    obtain rfl : xs = [] := by
      rcases h with h | ⟨b, o, h, _⟩
      · simpa [nums8] using h
      · cases h
    simp [Extern.Bytes.bytesOf, Lib.bytesOf]
    rfl
  | some a =>
    have hl := Lib.run_loadBytesX (P := P) w xs a .empty (fun j x hj => by
      rcases h with h | ⟨b, o, h, _, hc⟩
      · obtain rfl : xs = [] := by simpa [nums8] using h
        simp at hj
      · injection h with h
        subst h
        rw [add_plain0]
        exact hc j _ (by simp [nums8, hj]))
    simp only [Extern.Bytes.bytesOf]
    rw [hl]
    simp
set_option maxRecDepth 100000 in
theorem cmpB_calls (w : World) (A B : Option Addr) (xs ys : List Int) (c d : Nat) (hr : Row w A (nums8 xs)) (hs : Row w B (nums8 ys)) (hx : Byt xs) (hy : Byt ys) :
    Calls Tryd.prog 60 #[.slice A xs.length c, .slice B ys.length d] w fun e w' => e = .returned (.int .i64 (cmpX xs ys)) ∧ w' = w := by
  have hrun : (callFunc 68 #[.slice A xs.length c, .slice B ys.length d]).run Tryd.prog w = .ok (.value (.int .i64 (cmpX xs ys))) w := by
    rw [run_callFunc_extern (P := Tryd.prog) (f := 68) (fn := Tryd.f68) (e := Extern.BytealgCompare.compare) (by rfl) (by kernel_rfl) (by kernel_rfl) (by kernel_rfl) (by kernel_rfl)]
    have e : (Extern.BytealgCompare.compare #[.slice A xs.length c, .slice B ys.length d]).run Tryd.prog w = .ok (.int .i64 (cmpX xs ys)) w := by
      change Sem.run Tryd.prog (do pure (goInt (Extern.BytealgCompare.cmp (← Extern.Bytes.bytesOf (.slice A xs.length c)) (← Extern.Bytes.bytesOf (.slice B ys.length d))))) w = _
      simp only [Sem.run_bind, run_bytesOf_row hr, run_bytesOf_row hs, Sem.run_pure, Result.andThen]
      rw [Lib.cmp_eq, ← cmpX_bytes xs ys hx hy]
      rfl
    rw [e]
    rfl
  have HR := Lib.hid hrun
  clear hr hs hx hy
  generalize cmpX xs ys = r at *
  go_enter Tryd.func60, Tryd.ntmps60
  go_wp2
  go_ret
  exact ⟨rfl, rfl⟩
theorem or_top (m : Nat) (h : m < 9223372036854775808) : m ||| 9223372036854775808 = m + 9223372036854775808 := by
  have := Nat.two_pow_add_eq_or_of_lt (i := 63) (b := m) (by simpa using h) 1
  rw [Nat.or_comm, Nat.add_comm]
  simpa using this.symm
set_option maxRecDepth 100000 in
set_option maxHeartbeats 400000 in
theorem rank_calls (w : World) (b : Nat) (hb : b < 18446744073709551616) :
    Calls Tryd.prog 47 #[.float .f64 b] w fun e w' => e = .returned (.int .u64 (rankB b)) ∧ w' = w := by
  have h1 := run_bits
  have ho := order_self b
  by_cases hN : b % top63 ≤ infB
  · rw [if_pos hN] at ho
    have hc : cleanB b = b := by unfold cleanB; rw [if_neg (by omega)]
    have ha : bits BinOp.and IntKind.u64 (b : Int) 9223372036854775808 = ((b &&& 9223372036854775808 : Nat) : Int) := u64_and_nat b 9223372036854775808 hb (by omega)
    have hx := xor_max b hb
    by_cases hlo : b < 9223372036854775808
    · rw [and_top b hb, if_pos hlo] at ha
      have hor : bits BinOp.or IntKind.u64 (b : Int) 9223372036854775808 = ((rankB b : Nat) : Int) := by
        rw [show (9223372036854775808 : Int) = ((9223372036854775808 : Nat) : Int) from rfl, u64_or_nat b _ hb (by omega), or_top b hlo]
        unfold rankB top63
        rw [hc, if_pos hlo]
      clear hx hc hlo hN hb
      generalize rankB b = r at *
      go_enter Tryd.func47, Tryd.ntmps47
      go_wp2
      go_ret
      exact ⟨rfl, rfl⟩
    · rw [and_top b hb, if_neg hlo] at ha
      have hxr : bits BinOp.xor IntKind.u64 IntKind.u64.max (b : Int) = ((rankB b : Nat) : Int) := by
        rw [hx]
        unfold rankB top63
        rw [hc, if_neg hlo]
      clear hx hc hlo hN hb
      generalize rankB b = r at *
      go_enter Tryd.func47, Tryd.ntmps47
      go_wp2
      go_ret
      exact ⟨rfl, rfl⟩
  · rw [if_neg hN] at ho
    have hc : cleanB b = 9221120237041090560 := by unfold cleanB; rw [if_pos (by omega)]; rfl
    have hr : rankB b = 18444492273895866368 := by unfold rankB; rw [hc]; rfl
    rw [hr]
    have ha : bits BinOp.and IntKind.u64 9221120237041090560 9223372036854775808 = 0 := by decide
    have hor : bits BinOp.or IntKind.u64 9221120237041090560 9223372036854775808 = 18444492273895866368 := by decide
    clear hc hr hN hb
    go_enter Tryd.func47, Tryd.ntmps47
    go_wp2
    go_ret
    exact ⟨rfl, rfl⟩
set_option maxRecDepth 100000 in
theorem or_calls (w : World) (g : Nat) (x y : Int) (h0 : w.cell? ⟨g, 0, none⟩ = some (.int .i64 x)) (h1 : w.cell? ⟨g, 1, none⟩ = some (.int .i64 y)) :
    Calls Tryd.prog 59 #[.slice (some ⟨g, 0, none⟩) 2 2] w fun e w' => e = .returned (.int .i64 (if x = 0 then y else x)) ∧ w' = w := by
  generalize hr : (if x = 0 then y else x) = r
  have HR := Lib.hid hr
  clear hr
  go_enter Tryd.func59, Tryd.ntmps59
  go_wp2
  go_loopw [8, 5] (fun vi _ wr => ∃ k : Nat, k ≤ 2 ∧ vi = .int .i64 k ∧ (1 ≤ k → x = 0) ∧ (2 ≤ k → y = 0) ∧ w = wr) (fun vi _ _ => 2 - (intOf vi).toNat)
  case atStart => exact ⟨0, by omega, rfl, by omega, by omega, rfl⟩
  case round =>
    obtain ⟨k, hk, rfl, h2, h3, rfl⟩ := hrel
    have H2 := Lib.hid (show _ ∧ _ from ⟨h2, h3⟩)
    clear h2 h3
    have hkk : k = 0 ∨ k = 1 ∨ k = 2 := by omega
    rcases hkk with rfl | rfl | rfl
    · by_cases hx : x = 0
      · have hxb : (x != 0) = false := by simpa using hx
        have HX := Lib.hid hx
        clear hx
        go_wp2
        go_roundw
        case rel => exact ⟨1, by omega, rfl, fun _ => HX.out, by omega, by trivial⟩
        case measure => simp [intOf]
      · have hxb : (x != 0) = true := by simpa using hx
        have HX := Lib.hid hx
        clear hx
        go_wp2
        go_ret
        exact ⟨by rw [← HR.out, if_neg HX.out]; rfl, rfl⟩
    · by_cases hx : y = 0
      · have hxb : (y != 0) = false := by simpa using hx
        have HX := Lib.hid hx
        clear hx
        go_wp2
        go_roundw
        case rel => exact ⟨2, by omega, rfl, fun _ => H2.out.1 (by omega), fun _ => HX.out, by trivial⟩
        case measure => simp [intOf]
      · have hxb : (y != 0) = true := by simpa using hx
        clear hx
        go_wp2
        go_ret
        exact ⟨by rw [← HR.out, if_pos (H2.out.1 (by omega))]; rfl, rfl⟩
    · go_wp2
      go_ret
      exact ⟨by rw [← HR.out, if_pos (H2.out.1 (by omega)), H2.out.2 (by omega)]; rfl, rfl⟩
end Go.Proofs.YtplfmpcoojkjlaaDoor
