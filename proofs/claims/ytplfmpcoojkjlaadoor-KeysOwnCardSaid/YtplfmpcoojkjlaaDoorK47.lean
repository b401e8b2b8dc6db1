/- The walks of what puts numbers down: the program's eight, the document's eight and turned. -/
import Derived.Test.YtplfmpcoojkjlaaDoorK45
import Derived.Test.YtplfmpcoojkjlaaDoorK31
import Derived.Test.YtplfmpcoojkjlaaDoorK30
namespace Go.Proofs.YtplfmpcoojkjlaaDoor
open Go.RowKit Go.Proofs.YtplfmpcoojkjlaaDoorW.PrintWords
theorem be_get : ∀ (k n i : Nat), i < k → (be k n)[i]? = some ((n / 256 ^ (k - 1 - i) % 256 : Nat) : Int)
  | 0, _, i, h => by omega
  | k + 1, n, 0, _ => by simp [be]
  | k + 1, n, i + 1, h => by
    have := be_get k n i (by omega)
    rw [show k + 1 - 1 - (i + 1) = k - 1 - i by omega]
    simpa [be] using this
theorem be_take (n k : Nat) (hk : k < 8) : (be 8 n).take (k + 1) = (be 8 n).take k ++ [(n : Int) / 2 ^ (56 - 8 * k) % 256] := by
  rw [List.take_add_one, be_get 8 n k hk]
  congr 1
  simp only [Option.toList_some, List.cons.injEq, and_true]
  have e : (256 : Nat) ^ (8 - 1 - k) = 2 ^ (56 - 8 * k) := by
    rw [show (256 : Nat) = 2 ^ 8 from rfl, ← Nat.pow_mul, show 8 * (8 - 1 - k) = 56 - 8 * k by omega]
  rw [e, Int.natCast_emod, Int.natCast_ediv, Int.natCast_pow]
  rfl
def OwnB (w : World) (base : Nat) (v : Value) (xs : List Int) : Prop := w.ownsRow base 5 1 v xs.length (nums8 xs)
/-- All that was there, but for v's own block, is as it was, and no block of v1's. -/
def Kp (W w1 : World) (v v1 : Value) : Prop := ∀ q, q < W.heap.size → some q ≠ v.ownBlock → w1.heap[q]? = W.heap[q]? ∧ some q ≠ v1.ownBlock
theorem kp_of {W w1 : World} {v v1 : Value} (hg : W.grownBy w1 v.ownBlock) (hat : v1.ownBlock = v.ownBlock ∨ ∃ b, v1.ownBlock = some b ∧ W.heap.size ≤ b) : Kp W w1 v v1 := fun q hq hne => by
  refine ⟨hg.block q hq hne, fun e => ?_⟩
  rcases hat with h | ⟨b, h, hb⟩
  · exact hne (e.trans h)
  · rw [h] at e
    injection e with e
    omega
theorem Kp.trans {W w1 w2 : World} {v v1 v2 : Value} (h : Kp W w1 v v1) (k : Kp w1 w2 v1 v2) (hs : W.heap.size ≤ w1.heap.size) : Kp W w2 v v2 := fun q hq hne => by
  have h1 := h q hq hne
  have h2 := k q (Nat.lt_of_lt_of_le hq hs) h1.2
  exact ⟨h2.1.trans h1.1, h2.2⟩
/-- append(v, c) of one byte: v of the call's own. -/
theorem app_byte {ops : Array Oper} {rest : List Oper} {o : Oper} {a : Act} {Q : Exit → Act → World → Prop} {W : World} (hgd : o.guard = none) (s x : Operand)
    (ho : o.op = .call { callee := .builtin .append, args := #[s, x], argTypes := #[24, 24] }) (base : Nat) (v : Value) (acc : List Int) (c : Int) (N : Nat)
    (hs : a.eval s = v) (hx : a.eval x = .slice (some ⟨N, 0, none⟩) 1 1) (hN : N = W.heap.size) (own : OwnB W base v acc) (hl : acc.length + 1 ≤ 140737488355328) (hbase : base ≤ W.heap.size)
    (h : ∀ v1 w1, OwnB w1 base v1 (acc ++ [c]) → Below base W w1 → Kp W w1 v v1 → wpList Tryd.prog ops Q rest (a.put o.dst v1) w1) :
    wpList Tryd.prog ops Q (o :: rest) a (W.alloc (.cells #[.int .u8 c] 5)) := by
  subst hN
  refine app_bytes hgd s x ho base v acc [c] W.heap.size 0 1 1 hs hx rfl (own.alloc _) (at_new W [.int .u8 c] _) (by simpa using hl) (by simp; omega) ?_
  intro v1 w1 hown hb hg hat
  refine h v1 w1 hown (((Below.refl base W).alloc hbase _).trans hb) fun q hq hne => ?_
  have h1 := kp_of hg hat q (by simp; omega) hne
  refine ⟨h1.1.trans ?_, h1.2⟩
  exact ((Below.refl W.heap.size W).alloc (Nat.le_refl _) _).block q hq
/-- append(v, ys...): v of the call's own, ys read. -/
theorem app_text {ops : Array Oper} {rest : List Oper} {o : Oper} {a : Act} {Q : Exit → Act → World → Prop} {W : World} (hgd : o.guard = none) (s x : Operand)
    (ho : o.op = .call { callee := .builtin .append, args := #[s, x], argTypes := #[24, 24] }) (base : Nat) (v : Value) (acc ys : List Int) (A : Option Addr) (m c : Nat)
    (hs : a.eval s = v) (hx : a.eval x = .slice A m c) (hm : m = ys.length) (own : OwnB W base v acc) (hr : Row W A (nums8 ys)) (hl : acc.length + ys.length ≤ 140737488355328) (hbase : base ≤ W.heap.size)
    (h : ∀ v1 w1, OwnB w1 base v1 (acc ++ ys) → Below base W w1 → Kp W w1 v v1 → wpList Tryd.prog ops Q rest (a.put o.dst v1) w1) :
    wpList Tryd.prog ops Q (o :: rest) a W := by
  subst hm
  refine print_append_row base hgd s x 24 5 .u8 1 ho Tryd.underlying24 info5 (by decide) v acc ys _ _ c hs hx own (row_reads hr (by omega)) (Below.refl _ _) hbase (by omega) ?_
  intro v1 w1 hown hb hg hat
  exact h v1 w1 hown hb (kp_of hg hat)
set_option maxRecDepth 100000 in
set_option maxHeartbeats 400000 in
theorem eight_calls (w : World) (n : Nat) (hn : n < 18446744073709551616) (v : Value) (xs : List Int) (base : Nat) (hv : OwnB w base v xs) (hb : base ≤ w.heap.size) (hl : xs.length ≤ 1099511627776) :
    Calls Tryd.prog 46 #[v, .int .u64 n] w fun e w' => ∃ v', e = .returned v' ∧ OwnB w' base v' (xs ++ be 8 n) ∧ Below base w w' ∧ base ≤ w'.heap.size := by
  have HV := Lib.hid hv
  have HN := Lib.hid hn
  have HL := Lib.hid hl
  have HB := Lib.hid hb
  clear hv hn hl hb
  go_enter Tryd.func46, Tryd.ntmps46
  go_wp2
  go_loopw [0, 5] (fun vv vi wr => ∃ (k : Nat), k ≤ 8 ∧ vi = .int .i64 (56 - 8 * (k : Int)) ∧ OwnB wr base vv (xs ++ (be 8 n).take k) ∧ Below base w wr ∧ base ≤ wr.heap.size) (fun _ vi _ => (intOf vi + 8).toNat)
  case atStart => exact ⟨0, by omega, rfl, by simpa using HV.out, Below.refl _ _, HB.out⟩
  case round =>
    obtain ⟨k, hk, rfl, hown, hbw, hbs⟩ := hrel
    have HW := Lib.hid (show _ ∧ _ ∧ _ from ⟨hown, hbw, hbs⟩)
    clear hown hbw hbs
    by_cases hlt : k < 8
    · have HT := Lib.hid (be_take n k hlt)
      have hnb := HN.out
      go_wp2_with (((with_reducible refine gate_dst (N := 17) rfl ?_); go_loud (refine app_byte rfl (.tmp 10) (.tmp 16) rfl base u0 (xs ++ (be 8 n).take k) _ wr.heap.size rfl rfl rfl HW.out.1 (by have := HL.out; rw [List.length_append, List.length_take, be_length]; omega) HW.out.2.2 ?_); intro v2 w2 hown2 hb2 _; have H2 := Lib.hid (show _ ∧ _ from ⟨hown2, hb2⟩); clear hown2 hb2))
      go_roundw
      case rel => exact ⟨k + 1, by omega, by congr 1; omega, by unfold OwnB; rw [HT.out, ← List.append_assoc]; exact H2.out.1, HW.out.2.1.trans H2.out.2, Nat.le_trans HW.out.2.2 H2.out.2.size⟩
      case measure => simp [intOf]; omega
    · obtain rfl : k = 8 := by omega
      go_wp2
      go_ret
      have h8 : (be 8 n).take 8 = be 8 n := List.take_of_length_le (by rw [be_length]; omega)
      refine ⟨_, rfl, ?_, HW.out.2⟩
      have := HW.out.1
      rwa [h8] at this
theorem OwnB.nil (w : World) (base : Nat) : OwnB w base (.slice none 0 0) [] := ⟨rfl, .inl ⟨rfl, rfl⟩⟩
set_option maxRecDepth 100000 in
set_option maxHeartbeats 400000 in
theorem reight_calls (w : World) (n : Nat) (hn : n < 18446744073709551616) :
    Calls Tryd.prog 44 #[.int .u64 n] w fun e w' => ∃ v', e = .returned v' ∧ OwnB w' w.heap.size v' (be 8 n) ∧ Below w.heap.size w w' := by
  have HN := Lib.hid hn
  clear hn
  go_enter Tryd.func44, Tryd.ntmps44
  go_wp2
  go_loopw [3, 4] (fun vv vi wr => ∃ (k : Nat), k ≤ 8 ∧ vi = .int .i64 (7 - (k : Int)) ∧ OwnB wr w.heap.size vv ((be 8 n).take k) ∧ Below w.heap.size w wr) (fun _ vi _ => (intOf vi + 1).toNat)
  case atStart => exact ⟨0, by omega, rfl, OwnB.nil _ _, Below.refl _ _⟩
  case round =>
    obtain ⟨k, hk, rfl, hown, hbw⟩ := hrel
    have HW := Lib.hid (show _ ∧ _ from ⟨hown, hbw⟩)
    clear hown hbw
    by_cases hlt : k < 8
    · have HT := Lib.hid (be_take n k hlt)
      have hnb := HN.out
      have e8 : 8 * (7 - (k : Int)) = 56 - 8 * (k : Int) := by omega
      go_wp2_with (((with_reducible refine gate_dst (N := 17) rfl ?_); go_loud (refine app_byte rfl (.tmp 9) (.tmp 16) rfl w.heap.size u3 ((be 8 n).take k) _ wr.heap.size rfl rfl rfl HW.out.1 (by rw [List.length_take, be_length]; omega) HW.out.2.size ?_); intro v2 w2 hown2 hb2 _; have H2 := Lib.hid (show _ ∧ _ from ⟨hown2, hb2⟩); clear hown2 hb2))
      go_roundw
      case rel => exact ⟨k + 1, by omega, by congr 1; omega, by unfold OwnB; rw [HT.out]; exact H2.out.1, HW.out.2.trans H2.out.2⟩
      case measure => simp [intOf]; omega
    · obtain rfl : k = 8 := by omega
      go_wp2
      go_ret
      have h8 : (be 8 n).take 8 = be 8 n := List.take_of_length_le (by rw [be_length]; omega)
      refine ⟨_, rfl, ?_, HW.out.2⟩
      have := HW.out.1
      rwa [h8] at this
set_option maxRecDepth 100000 in
theorem turned_calls (w : World) (b : Nat) (hb : b < 18446744073709551616) :
    Calls Tryd.prog 45 #[.int .u64 b] w fun e w' => e = .returned (.int .u64 (rankB b)) ∧ w' = w := by
  have h1 := clean_calls w b hb
  have hlt := cleanB_lt b hb
  have hr : rankB b = if cleanB b < top63 then cleanB b + top63 else 18446744073709551615 - cleanB b := rfl
  generalize cleanB b = c at *
  generalize rankB b = r at *
  have H := Lib.hid h1
  have h0 : (0 : Int) ≤ c := by omega
  have h2 : (c : Int) ≤ 18446744073709551615 := by omega
  unfold top63 at hr
  by_cases hc : c < 9223372036854775808
  · rw [if_pos hc] at hr
    have HR := Lib.hid (show (c : Int) + 9223372036854775808 = (r : Int) by omega)
    have hd : decide ((c : Int) < 9223372036854775808) = true := by simp; omega
    have hc' : (c : Int) < 9223372036854775808 := by omega
    clear h1 hr hc hb hlt
    go_enter Tryd.func45, Tryd.ntmps45
    go_wp2_with fail
    refine H.out.mono ?_
    rintro e w' ⟨rfl, rfl⟩
    go_wp2
    go_ret
    exact ⟨by rw [← HR.out]; rfl, rfl⟩
  · rw [if_neg hc] at hr
    have HR := Lib.hid (show 18446744073709551615 - (c : Int) = (r : Int) by omega)
    have hd : decide ((c : Int) < 9223372036854775808) = false := by simp; omega
    have hc' : (9223372036854775808 : Int) ≤ (c : Int) := by omega
    clear h1 hr hc hb hlt
    go_enter Tryd.func45, Tryd.ntmps45
    go_wp2_with fail
    refine H.out.mono ?_
    rintro e w' ⟨rfl, rfl⟩
    go_wp2
    go_ret
    exact ⟨by rw [← HR.out]; rfl, rfl⟩
end Go.Proofs.YtplfmpcoojkjlaaDoor
