/- The program's reading of numbers: number (the closure), unrank, float (the closure). -/
import Derived.Test.YtplfmpcoojkjlaaDoorK1
import Derived.Test.YtplfmpcoojkjlaaDoorWWords
import Derived.Test.YtplfmpcoojkjlaaDoorRows
import Derived.Laws.Externs
import Derived.Laws.Cover2
import Derived.Laws.Cover3
import Derived.Laws.EntriesVeiled
namespace Go.Proofs.YtplfmpcoojkjlaaDoor
open Go.RowKit Go.Proofs.YtplfmpcoojkjlaaDoorW.PrintWords
section
variable (P : Program) (w : World) (a : Addr) (m : Mode)
@[go_sem] theorem k_store_float (k : FloatKind) (x : Nat) : (store a (.float k x) m).run P w = stored P w a (.float k x) m := run_store P w a _ m rfl
@[go_sem] theorem k_store_complex (k : FloatKind) (x y : Nat) : (store a (.complex k x y) m).run P w = stored P w a (.complex k x y) m := run_store P w a _ m rfl
end
theorem info5 : (Tryd.prog.info? 5).map (fun i => (i.zero, i.size, i.bytes)) = some (some (.int .u8 0), 1, 1) := by kernel_rfl

theorem cutFrom (t e : TypeId) {i : TypeInfo} (ht : Tryd.prog.underlying t = some (.slice e)) (hi : Tryd.prog.info? e = some i) (hsz : i.size = 1) (A : Option Addr) (n c : Nat) (j : Int) (k : Nat) (hj : j = k) (hm : k ≤ n) :
    ∀ W : World, (Instr.slice t (.slice A n c) (some (.int .i64 j)) none none).run Tryd.prog W = .ok (.slice (cutA A c k) (n - k) (c - k)) W := by
  subst hj
  have h := cut_from (P := Tryd.prog) t e .i64 ht hi 1 hsz A n c (k : Int) (by omega) (by omega)
  simpa [cutA] using h
theorem cutTo (t e : TypeId) {i : TypeInfo} (ht : Tryd.prog.underlying t = some (.slice e)) (hi : Tryd.prog.info? e = some i) (A : Option Addr) (n c : Nat) (j : Int) (k : Nat) (hj : j = k) (hm : k ≤ n) (hc : n ≤ c) :
    ∀ W : World, (Instr.slice t (.slice A n c) none (some (.int .i64 j)) none).run Tryd.prog W = .ok (.slice A k c) W := by
  subst hj
  have h := cut_to (P := Tryd.prog) t e .i64 ht hi A n c (k : Int) (by omega) (by omega) hc
  simpa using h
theorem ret2 {a b c d : Value} (h : a = c) (k : b = d) : Ending.returned (.tuple #[a, b]) = .returned (.tuple #[c, d]) := by rw [h, k]
theorem u64_nat {a b : Nat} (h : a = b) : Value.int .u64 a = .int .u64 b := by rw [h]

/-! ### number -/
set_option maxRecDepth 100000 in
set_option maxHeartbeats 400000 in
theorem number_short (w : World) (bp : Nat) (A : Option Addr) (n c : Nat) (hb : w.heap[bp]? = some (.cells #[.slice A n c] 24 (0,0))) (hn : n < 8) :
    Calls Tryd.prog 51 #[.pointer (some ⟨bp, 0, none⟩)] w fun e w' => e = .returned (.tuple #[.int .u64 0, .bool false]) ∧ w' = w := by
  have hc : w.cell? ⟨bp, 0, none⟩ = some (.slice A n c) := by rw [blk_cell hb]; rfl
  clear hb
  go_enter Tryd.func51, Tryd.ntmps51
  go_wp2
  go_ret2
  exact ⟨rfl, rfl⟩
set_option maxRecDepth 100000 in
set_option maxHeartbeats 400000 in
theorem number_long (w : World) (bp : Nat) (A : Option Addr) (xs : List Int) (c : Nat) (hb : w.heap[bp]? = some (.cells #[.slice A xs.length c] 24 (0,0))) (hr : Row w A (nums8 xs)) (hx : Byt xs) (hc : xs.length ≤ c) (hn : 8 ≤ xs.length) :
    Calls Tryd.prog 51 #[.pointer (some ⟨bp, 0, none⟩)] w fun e w' => e = .returned (.tuple #[.int .u64 (be8 (xs.take 8)), .bool true]) ∧ w' = w.setCell ⟨bp, 0, none⟩ (.slice (cutA A c 8) (xs.length - 8) (c - 8)) := by
  have hcell : w.cell? ⟨bp, 0, none⟩ = some (.slice A xs.length c) := by rw [blk_cell hb]; rfl
  have hfr : w.frozen? ⟨bp, 0, none⟩ = false := blk_frozen hb 0
  obtain ⟨b, o, rfl, hlt, hcs⟩ := hr.get (by intro h; simp [nums8] at h; simp [h] at hn)
  obtain ⟨i0, hi, _, hsz, _⟩ := info_parts info5
  have hc1 := cutTo 24 5 Tryd.underlying24 hi (some ⟨b, o, none⟩) xs.length c 8 8 rfl hn hc
  have hc2 := cutFrom 24 5 Tryd.underlying24 hi hsz (some ⟨b, o, none⟩) xs.length c 8 8 rfl hn
  clear hi hsz
  have HCS := Lib.hid hcs
  clear hcs hb
  go_enter Tryd.func51, Tryd.ntmps51
  go_wp2
  go_loop [3, 12] (fun n i => ∃ k : Nat, k ≤ 8 ∧ i = .int .i64 k ∧ n = .int .u64 (be8 (xs.take k))) (fun _ i => 8 - (intOf i).toNat)
  case atStart => exact ⟨0, by omega, rfl, rfl⟩
  case round =>
    obtain ⟨k, hk, rfl, rfl⟩ := hrel
    by_cases hlt : k < 8
    · have hcell : w.cell? ⟨b, o + k, none⟩ = some (.int .u8 xs[k]) := HCS.out k _ (nums8_get xs k (by omega))
      have HX := Lib.hid (hx.at k (by omega))
      have HB := Lib.hid (be8_lt (xs.take k) (hx.take k))
      go_wp2
      go_round
      case rel =>
        refine ⟨k + 1, by omega, by go_num, ?_⟩
        have h7 : (xs.take k).length = k := by rw [List.length_take]; omega
        have hb := HB.out
        rw [h7] at hb
        have h8 : 256 ^ k ≤ 256 ^ 7 := Nat.pow_le_pow_right (by decide) (by omega)
        rw [show (256 : Nat) ^ 7 = 72057594037927936 by decide] at h8
        rw [or8 _ _ (by omega) HX.out.1 HX.out.2, take_snoc (show k < xs.length by omega), be8_snoc]
      case measure => simp [intOf]; omega
    · have h8 : k = 8 := by omega
      go_wp2
      go_ret2
      subst h8
      exact ⟨rfl, rfl⟩

/-! ### unrank -/
theorem run_frombits (x : Int) (w : World) : (callFunc 24 #[.int .u64 x]).run Tryd.prog w = .ok (.value (.float .f64 x.toNat)) w := by
  rw [run_callFunc_extern (P := Tryd.prog) (f := 24) (fn := Tryd.f24) (e := Extern.MathFloatBits.float64frombits) (by rfl) (by kernel_rfl) (by kernel_rfl) (by kernel_rfl) (by kernel_rfl)]
  rfl
theorem run_bits (x : Nat) (w : World) : (callFunc 40 #[.float .f64 x]).run Tryd.prog w = .ok (.value (.int .u64 x)) w := by
  rw [run_callFunc_extern (P := Tryd.prog) (f := 40) (fn := Tryd.f40) (e := Extern.MathFloatBits.float64bits) (by rfl) (by kernel_rfl) (by kernel_rfl) (by kernel_rfl) (by kernel_rfl)]
  rfl
theorem xor_max (n : Nat) (hn : n < 18446744073709551616) : bits BinOp.xor IntKind.u64 IntKind.u64.max (n : Int) = ((18446744073709551615 - n : Nat) : Int) := by
  have h : IntKind.u64.max = ((18446744073709551615 : Nat) : Int) := by decide
  rw [h, u64_xor_nat _ _ (by omega) hn]
  congr 1
  rw [show (18446744073709551615 : Nat) = 2 ^ 64 - 1 by decide]
  refine Nat.eq_of_testBit_eq fun j => ?_
  rw [Nat.testBit_xor, Nat.testBit_two_pow_sub_one, show 2 ^ 64 - 1 - n = 2 ^ 64 - (n + 1) by omega, Nat.testBit_two_pow_sub_succ (by omega)]
  by_cases hj : j < 64
  · simp [hj]
  · have : n.testBit j = false := Nat.testBit_lt_two_pow (Nat.lt_of_lt_of_le (show n < 2 ^ 64 by omega) (Nat.pow_le_pow_right (by decide) (by omega)))
    simp [hj, this]
theorem nanB_beq (u : Nat) : ((u : Int) == 9221120237041090560) = decide (u = nanB) := by
  unfold nanB
  by_cases h : u = 9221120237041090560
  · subst h; rfl
  · have h1 : ¬ (u : Int) = 9221120237041090560 := by omega
    simp [h, h1]
set_option maxRecDepth 100000 in
set_option maxHeartbeats 400000 in
theorem unrank_any (w : World) (n : Nat) (hn : n < 18446744073709551616) :
    Calls Tryd.prog 53 #[.int .u64 n] w fun e w' => e = .returned (.tuple #[.float .f64 (unrankB n), .bool (decide (cleanB (unrankB n) = unrankB n))]) ∧ w' = w := by
  have h1 := run_frombits
  have hx := xor_max n hn
  have ha : bits BinOp.and IntKind.u64 (n : Int) 9223372036854775808 = ((n &&& 9223372036854775808 : Nat) : Int) := u64_and_nat n 9223372036854775808 hn (by omega)
  have ho := order_self (unrankB n)
  have hcl := cleanB_eq (unrankB n)
  have hu := unrankB_lt n hn
  by_cases hlo : n < 9223372036854775808
  · have ha' : bits BinOp.and IntKind.u64 (n : Int) 9223372036854775808 = 0 := by rw [ha, and_top n hn, if_pos hlo]; rfl
    have he : 18446744073709551615 - n = unrankB n := by unfold unrankB top63; rw [if_neg (by omega)]
    rw [he] at hx
    clear ha he
    generalize hun : unrankB n = u at *
    clear hun
    by_cases hN : u % top63 ≤ infB
    · rw [if_pos hN] at ho
      have hd : decide (cleanB u = u) = true := decide_eq_true (hcl.2 (.inl hN))
      have HD := Lib.hid hd
      clear hcl hN hlo hn hu hd
      go_enter Tryd.func53, Tryd.ntmps53
      go_wp2
      all_goals go_ret2
      all_goals exact ⟨by rw [HD.out]; first | rfl | (simp [hx]; done) | simp_all, rfl⟩
    · rw [if_neg hN] at ho
      have hd : decide (cleanB u = u) = decide (u = nanB) := by simp [hcl, hN]
      have HD := Lib.hid hd
      have hk := nanB_beq u
      clear hcl hN hlo hn hu hd
      go_enter Tryd.func53, Tryd.ntmps53
      go_wp2
      all_goals go_ret2
      all_goals exact ⟨by rw [HD.out]; first | rfl | (simp [hx]; done) | simp_all, rfl⟩
  · have ha' : bits BinOp.and IntKind.u64 (n : Int) 9223372036854775808 = 9223372036854775808 := by rw [ha, and_top n hn, if_neg hlo]; rfl
    have hnt : bits BinOp.andNot IntKind.u64 (n : Int) 9223372036854775808 = ((unrankB n : Nat) : Int) := by
      rw [show (9223372036854775808 : Int) = ((9223372036854775808 : Nat) : Int) from rfl, u64_andNot_nat n _ hn (by omega)]
      congr 1
      unfold unrankB top63
      rw [if_pos (by omega)]
      have := Nat.and_two_pow_sub_one_eq_mod n 63
      rw [show (18446744073709551615 - 9223372036854775808 : Nat) = 2 ^ 63 - 1 by decide, this]
      omega
    clear ha
    generalize hun : unrankB n = u at *
    clear hun
    by_cases hN : u % top63 ≤ infB
    · rw [if_pos hN] at ho
      have hd : decide (cleanB u = u) = true := decide_eq_true (hcl.2 (.inl hN))
      have HD := Lib.hid hd
      clear hcl hN hlo hn hu hd
      go_enter Tryd.func53, Tryd.ntmps53
      go_wp2
      all_goals go_ret2
      all_goals exact ⟨by rw [HD.out]; first | rfl | (simp [hx]; done) | simp_all, rfl⟩
    · rw [if_neg hN] at ho
      have hd : decide (cleanB u = u) = decide (u = nanB) := by simp [hcl, hN]
      have HD := Lib.hid hd
      have hk := nanB_beq u
      clear hcl hN hlo hn hu hd
      go_enter Tryd.func53, Tryd.ntmps53
      go_wp2
      all_goals go_ret2
      all_goals exact ⟨by rw [HD.out]; first | rfl | (simp [hx]; done) | simp_all, rfl⟩

/-! ### float -/
set_option maxRecDepth 100000 in
set_option maxHeartbeats 400000 in
theorem float_long (w : World) (fp bp : Nat) (A : Option Addr) (xs : List Int) (c : Nat) (hf : w.heap[fp]? = some (.cells #[.func (.func 51) #[] #[.pointer (some ⟨bp, 0, none⟩)]] 85 (0,0))) (hb : w.heap[bp]? = some (.cells #[.slice A xs.length c] 24 (0,0))) (hr : Row w A (nums8 xs)) (hx : Byt xs) (hc : xs.length ≤ c) (hn : 8 ≤ xs.length) :
    Calls Tryd.prog 52 #[.pointer (some ⟨fp, 0, none⟩)] w fun e w' => e = .returned (.tuple #[.float .f64 (unrankB (be8 (xs.take 8))), .bool (decide (cleanB (unrankB (be8 (xs.take 8))) = unrankB (be8 (xs.take 8))))]) ∧ w' = w.setCell ⟨bp, 0, none⟩ (.slice (cutA A c 8) (xs.length - 8) (c - 8)) := by
  have hcell : w.cell? ⟨fp, 0, none⟩ = some (.func (.func 51) #[] #[.pointer (some ⟨bp, 0, none⟩)]) := by rw [blk_cell hf]; rfl
  have HN := Lib.hid (number_long w bp A xs c hb hr hx hc hn)
  have HB := Lib.hid (be8_bound hx (k := 8) (by omega))
  clear hb hr hc hf
  go_enter Tryd.func52, Tryd.ntmps52
  go_wp2_with fail
  refine HN.out.mono ?_
  rintro e w1 ⟨rfl, rfl⟩
  go_wp2_with fail
  refine (unrank_any _ _ HB.out).mono ?_
  rintro e w1 ⟨rfl, rfl⟩
  go_wp2
  go_ret2
  exact ⟨rfl, rfl⟩
set_option maxRecDepth 100000 in
set_option maxHeartbeats 400000 in
theorem float_short (w : World) (fp bp : Nat) (A : Option Addr) (n : Nat) (c : Nat) (hf : w.heap[fp]? = some (.cells #[.func (.func 51) #[] #[.pointer (some ⟨bp, 0, none⟩)]] 85 (0,0))) (hb : w.heap[bp]? = some (.cells #[.slice A n c] 24 (0,0))) (hn : n < 8) :
    Calls Tryd.prog 52 #[.pointer (some ⟨fp, 0, none⟩)] w fun e w' => e = .returned (.tuple #[.float .f64 (unrankB 0), .bool false]) ∧ w' = w := by
  have hcell : w.cell? ⟨fp, 0, none⟩ = some (.func (.func 51) #[] #[.pointer (some ⟨bp, 0, none⟩)]) := by rw [blk_cell hf]; rfl
  have HN := Lib.hid (number_short w bp A n c hb hn)
  clear hb hf
  go_enter Tryd.func52, Tryd.ntmps52
  go_wp2_with fail
  refine HN.out.mono ?_
  rintro e w1 ⟨rfl, rfl⟩
  go_wp2_with fail
  refine (unrank_any _ 0 (by omega)).mono ?_
  rintro e w1 ⟨rfl, rfl⟩
  go_wp2
  go_ret2
  exact ⟨rfl, rfl⟩

end Go.Proofs.YtplfmpcoojkjlaaDoor
