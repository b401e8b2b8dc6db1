/- same; lent. -/
import Derived.Test.YtplfmpcoojkjlaaDoorK3
import Derived.Lib.Hide
namespace Go.Proofs.YtplfmpcoojkjlaaDoor
open Go.RowKit Go.Proofs.YtplfmpcoojkjlaaDoorW.PrintWords
theorem row_reads {w : World} {A : Option Addr} {xs : List Int} (h : Row w A (nums8 xs)) (hm : xs.length ≤ 9223372036854775807) : ReadsInt w .u8 A xs.length xs :=
  ⟨rfl, hm, fun hp => by
    obtain ⟨b, o, rfl, _, hc⟩ := h.get (by intro e; have h2 := congrArg List.length e; rw [nums8_length] at h2; have h3 : xs.length = 0 := h2; omega)
    refine ⟨_, rfl, fun i hi => ?_⟩
    rw [add_plain0, List.getD_eq_getElem?_getD, List.getElem?_eq_getElem hi]
    exact hc i _ (nums8_get xs i hi)⟩
/-- append(v, x...) of bytes, x wherever it lies. -/
theorem app_row {ops : Array Oper} {rest : List Oper} {o : Oper} {a : Act} {Q : Exit → Act → World → Prop} {W : World} (hgd : o.guard = none) (s x : Operand)
    (ho : o.op = .call { callee := .builtin .append, args := #[s, x], argTypes := #[24, 24] }) (base : Nat) (v : Value) (acc ys : List Int) (A : Option Addr) (c m : Nat)
    (hs : a.eval s = v) (hx : a.eval x = .slice A m c) (hm : m = ys.length) (own : W.ownsRow base 5 1 v acc.length (nums8 acc)) (at_ : Row W A (nums8 ys)) (hl : acc.length + ys.length ≤ 140737488355328) (hbase : base ≤ W.heap.size)
    (h : ∀ v1 w1, w1.ownsRow base 5 1 v1 (acc ++ ys).length (nums8 (acc ++ ys)) → Below base W w1 → W.grownBy w1 v.ownBlock → wpList Tryd.prog ops Q rest (a.put o.dst v1) w1) :
    wpList Tryd.prog ops Q (o :: rest) a W := by
  subst hm
  exact print_append_row base hgd s x 24 5 .u8 1 ho Tryd.underlying24 info5 (by decide) v acc ys _ _ c hs hx own (row_reads at_ (by omega)) (Below.refl _ _) hbase (by omega) fun v1 w1 h1 h2 h3 _ => h v1 w1 h1 h2 h3
def LentPost (w : World) (xs : List Int) (e : Ending) (w' : World) : Prop :=
  ∃ (A : Option Addr) (cap : Nat), e = .returned (.slice A xs.length cap) ∧ w'.ownsRow w.heap.size 5 1 (.slice A (xs.length + 2) cap) (xs.length + 2) (nums8 (xs ++ [201, 77])) ∧ Below w.heap.size w w'
set_option maxRecDepth 100000 in
set_option maxHeartbeats 1000000 in
theorem lent_calls (w : World) (A : Option Addr) (xs : List Int) (c : Nat) (hr : Row w A (nums8 xs)) (hm : xs.length ≤ 1099511627776) :
    Calls Tryd.prog 37 #[.slice A xs.length c] w (LentPost w xs) := by
  obtain ⟨i0, hi, hz0, hsz, hby⟩ := info_parts info5
  have HI := Lib.hid (show Tryd.prog.info? 5 = some i0 ∧ i0.size = 1 from ⟨hi, hsz⟩)
  have HR := Lib.hid (show ∀ O, Row (w.alloc O) A (nums8 xs) from fun O => hr.below ((Below.refl _ _).alloc (Nat.le_refl _) O))
  have h0 : (w.alloc (.cells #[] 5)).ownsRow w.heap.size 5 1 (.slice (some ⟨w.heap.size, 0, none⟩) 0 0) ([] : List Int).length (nums8 []) := by
    have := World.ownsRow_lit (base := w.heap.size) (e := 5) (size := 1) w #[] 0 (Nat.le_refl _) (by simp [maxLen]) rfl
    simpa [nums8] using this
  have H0 := Lib.hid h0
  clear hr hi hz0 hsz hby h0
  go_enter Tryd.func37, Tryd.ntmps37
  go_wp2_with (first | ((with_reducible refine gate_dst (N := 6) rfl ?_); go_loud (refine app_row rfl (.tmp 4) (.tmp 5) rfl w.heap.size _ [] xs A c xs.length rfl rfl rfl H0.out (HR.out _) (by simp; omega) (by simp) ?_); intro v1 w1 hown1 hb1 hg1; rw [List.nil_append] at hown1; have H1 := Lib.hid (show _ ∧ _ from ⟨hown1, ((Below.refl _ _).alloc (Nat.le_refl _) _).trans hb1⟩); clear hown1 hb1 hg1) | ((with_reducible refine gate_dst (N := 9) rfl ?_); go_loud (refine app_row rfl (.tmp 7) (.tmp 8) rfl w.heap.size _ xs [201, 77] (some ⟨w1.heap.size, 0, none⟩) 2 2 rfl rfl rfl (H1.out.1.alloc _) (at_new w1 [.int .u8 201, .int .u8 77] _).row (by simp; omega) (by have := H1.out.2.size; simp; omega) ?_; intro v2 w2 hown2 hb2 hg2; have e2 : (xs ++ [201, 77] : List Int).length = xs.length + 2 := (by simp); rw [e2] at hown2; clear e2; obtain ⟨A2, cap2, rfl⟩ := own_slice hown2; have hc2 := cutTo 24 5 Tryd.underlying24 HI.out.1 A2 (xs.length + 2) cap2 xs.length xs.length rfl (by omega) (own_le hown2); have H2 := Lib.hid (show _ ∧ _ from ⟨hown2, (H1.out.2.alloc H1.out.2.size _).trans hb2⟩); clear hown2 hb2 hg2)))
  go_ret
  exact ⟨A2, cap2, rfl, H2.out.1, H2.out.2⟩
set_option maxRecDepth 100000 in
set_option maxHeartbeats 1000000 in
theorem same_calls (w : World) (A B : Option Addr) (xs ys : List Int) (c d : Nat) (hr : Row w A (nums8 xs)) (hs : Row w B (nums8 ys)) (hm : xs.length ≤ 9223372036854775807) :
    Calls Tryd.prog 18 #[.slice A xs.length c, .slice B ys.length d] w fun e w' => e = .returned (.bool (decide (xs = ys))) ∧ Drawn0 w w' := by
  by_cases hl : xs.length = ys.length
  case neg =>
    have hlb : ((xs.length : Int) != (ys.length : Int)) = true := by simp; omega
    have hd : decide (xs = ys) = false := decide_eq_false fun h => hl (by rw [h])
    have HD := Lib.hid hd
    clear hr hs hl hd
    go_enter Tryd.func18, Tryd.ntmps18
    go_wp2
    go_ret
    exact ⟨by rw [HD.out]; rfl, Drawn0.refl _⟩
  case pos =>
    have hlb : ((xs.length : Int) != (ys.length : Int)) = false := by rw [hl]; simp
    have HL := Lib.hid hl
    have HR := Lib.hid hr
    have HS := Lib.hid hs
    clear hr hs hl
    go_enter Tryd.func18, Tryd.ntmps18
    go_wp2
    go_loopw [5] (fun vi wr => ∃ k : Nat, k ≤ xs.length ∧ vi = .int .i64 k ∧ Drawn0 w wr ∧ xs.take k = ys.take k) (fun vi _ => xs.length - (intOf vi).toNat)
    case atStart => exact ⟨0, by omega, rfl, Drawn0.refl _, rfl⟩
    case round =>
      obtain ⟨k, hk, rfl, hw, htk⟩ := hrel
      have HW := Lib.hid hw
      have hbw := hw.below
      have HBW := Lib.hid hbw
      clear hw hbw
      have HT := Lib.hid htk
      clear htk
      by_cases hlt : k < xs.length
      · have hlt2 : k < ys.length := by have := HL.out; omega
        obtain ⟨b, o, rfl, hblt, hcs⟩ := (HR.out.below HBW.out).get (by intro e; have h2 := congrArg List.length e; rw [nums8_length] at h2; have h3 : xs.length = 0 := h2; omega)
        obtain ⟨b2, o2, rfl, hblt2, hcs2⟩ := (HS.out.below HBW.out).get (by intro e; have h2 := congrArg List.length e; rw [nums8_length] at h2; have h3 : ys.length = 0 := h2; omega)
        have h1 : wr.cell? ⟨b, o + k, none⟩ = some (.int .u8 xs[k]) := hcs k _ (nums8_get xs k hlt)
        have h2 : wr.cell? ⟨b2, o2 + k, none⟩ = some (.int .u8 ys[k]) := hcs2 k _ (nums8_get ys k hlt2)
        have hx1 := take_snoc hlt
        have hx2 := take_snoc hlt2
        have HX := Lib.hid (show _ ∧ _ from ⟨hx1, hx2⟩)
        have hil : (k : Int) < (ys.length : Int) := by omega
        clear hcs hcs2 hx1 hx2
        by_cases he : xs[k] = ys[k]
        · have heb : (xs[k] != ys[k]) = false := by simpa using he
          have HE := Lib.hid he
          clear he
          go_wp2
          go_quiet (fail)
          go_wp2
          go_roundw
          case rel => exact ⟨k + 1, by omega, by go_num, Drawn0.step HW.out _, by rw [HX.out.1, HX.out.2, HT.out, HE.out]⟩
          case measure => simp [intOf]; omega
        · have heb : (xs[k] != ys[k]) = true := by simpa using he
          have hd : decide (xs = ys) = false := decide_eq_false fun h => he (by subst h; rfl)
          have HD := Lib.hid hd
          clear he hd
          go_wp2
          go_quiet (fail)
          go_wp2
          go_ret
          exact ⟨by rw [HD.out]; rfl, Drawn0.step HW.out _⟩
      · have hd : decide (xs = ys) = true := by
          refine decide_eq_true ?_
          have := HT.out
          rw [List.take_of_length_le (by omega), List.take_of_length_le (by have := HL.out; omega)] at this
          exact this
        have HD := Lib.hid hd
        clear hd
        go_wp2
        go_ret
        exact ⟨by rw [HD.out]; rfl, HW.out⟩
end Go.Proofs.YtplfmpcoojkjlaaDoor
