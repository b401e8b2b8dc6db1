/- parcel's Reader over small bytes: Read, next, num, Num. -/
import Derived.Test.YtokflmiijdpchaaGreatD40
namespace Go.Proofs.YtokflmiijdpchaaGreat
open Go.RowKit
attribute [local go_sem] Oper.semAt_some
/-- A reader's block: what is left. -/
def Rd (w : World) (b : Nat) (l : Value) : Prop := w.heap[b]? = some (.cells #[l, .slice none 0 0, .int .i64 0] 239 (0, 0))
theorem Rd.below {w w' : World} {b : Nat} {l : Value} (h : Rd w b l) (hb : Below w.heap.size w w') : Rd w' b l := (hb.block b (Array.getElem?_eq_some_iff.1 h).1).trans h
theorem Rd.lt {w : World} {b : Nat} {l : Value} (h : Rd w b l) : b < w.heap.size := (Array.getElem?_eq_some_iff.1 h).1
theorem Rd.got {w : World} {b : Nat} {l : Value} (h : Rd w b l) : w.cell? ⟨b, 0, none⟩ = some l ∧ w.frozen? ⟨b, 0, none⟩ = false ∧ w.cell? ⟨b, 1, none⟩ = some (.slice none 0 0) ∧ w.cell? ⟨b, 2, none⟩ = some (.int .i64 0) := ⟨(cellD h 0).1, (cellD h 0).2, (cellD h 1).1, (cellD h 2).1⟩
theorem Rd.set {w : World} {b : Nat} {l : Value} (h : Rd w b l) (v : Value) : Rd (w.setCell ⟨b, 0, none⟩ v) b v := block_set h 0 v
theorem kp_other (w : World) (p : Addr) (v : Value) : Kp (fun q => q ≠ p.block) w (w.setCell p v) := ⟨rfl, rfl, rfl, by simp, fun q hq => set_other _ p _ _ hq⟩
theorem kpset {U : Nat → Prop} {w w' : World} (h : Kp U w w') (p : Addr) (v : Value) (hp : ¬ U p.block) : Kp U w (w'.setCell p v) := h.trans ⟨rfl, rfl, rfl, by simp, fun q hq => set_other _ p _ _ fun e => hp (e ▸ hq)⟩
theorem next_calls (w : World) (b A o n k : Nat) (h : Rd w b (.slice (some ⟨A, o, none⟩) n n)) (hk : k ≤ n) : Calls Tryz.prog 147 #[.pointer (some ⟨b, 0, none⟩), .int .i64 k] w fun e w' => e = .returned (.slice (some ⟨A, o, none⟩) k k) ∧ ∃ o', Rd w' b (.slice (some ⟨A, o', none⟩) (n - k) (n - k)) ∧ (k < n → o' = o + k) ∧ Kp (fun q => q ≠ b) w w' := by
  obtain ⟨c0, c0f, -, -⟩ := h.got
  have HR := Lib.hid h
  clear h
  go_enter Tryz.func147, Tryz.ntmps147
  go_wp2
  all_goals
    go_ret
    first
      | exact ⟨rfl, ⟨_, HR.out.set _⟩, kp_other w ⟨b, 0, none⟩ _⟩
      | exact ⟨rfl, _, HR.out.set _, fun _ => rfl, kp_other w ⟨b, 0, none⟩ _⟩
set_option maxRecDepth 100000 in
theorem rnum_calls (w : World) (b A o n x : Nat) (h : Rd w b (.slice (some ⟨A, o, none⟩) n n)) (hx : x = 0 ∨ x = 2) (hn : 1 ≤ n) (hA : A ≠ b) (hc : w.cell? ⟨A, o, none⟩ = some (.int .u8 x)) : Calls Tryz.prog 149 #[.pointer (some ⟨b, 0, none⟩)] w fun e w' => e = .returned (.int .u64 x) ∧ ∃ o', Rd w' b (.slice (some ⟨A, o', none⟩) (n - 1) (n - 1)) ∧ (1 < n → o' = o + 1) ∧ Kp (fun q => q ≠ b) w w' := by
  have HR := Lib.hid (show _ ∧ _ from ⟨h, hc⟩)
  clear h hc
  go_enter Tryz.func149, Tryz.ntmps149
  go_wp2
  go_loopw [3, 4] (fun a k wr => a = .int .u64 0 ∧ k = .int .i64 0 ∧ wr = w) (fun _ _ _ => 0)
  case atStart => exact ⟨rfl, rfl, rfl⟩
  case round =>
    obtain ⟨rfl, rfl, rfl⟩ := hrel
    go_wp2_with (first
      | (go_at_call 147; refine (next_calls _ b A o n 1 HR.out.1 hn).mono ?_; rintro y w1 ⟨rfl, o1, h1, h2, h3⟩; have cA : w1.cell? ⟨A, o, none⟩ = some (.int .u8 x) := (World.cell?_of_block (h3.block A hA)).trans HR.out.2; have H1 := Lib.hid (show _ ∧ _ ∧ _ from ⟨h1, h2, h3⟩); clear h1 h2 h3))
    rcases hx with rfl | rfl
    all_goals
      go_ret
      exact ⟨rfl, o1, H1.out⟩
/-- The door of take, where nothing is recovered and no fault is set. -/
theorem taken_idle (w : World) (x b z v : Nat) (l : Value) (h : Rd w b l) (hx : w.cell? ⟨x, 0, none⟩ = some (.pointer (some ⟨b, 0, none⟩))) : CallsD Tryz.prog 216 #[.pointer (some ⟨x, 0, none⟩), .pointer (some ⟨z, 0, none⟩), .pointer (some ⟨v, 0, none⟩)] .returning w fun e u' w' => e = .returned (.tuple #[]) ∧ u' = .returning ∧ w' = w := by
  obtain ⟨-, -, -, c2⟩ := h.got
  clear h
  refine callsD_of_wpS Tryz.func216 rfl fun c₀ cs hu => ?_
  apply wpS_seq
  apply wpS_seq
  apply wpS_region
  simp [wpOpsS, go_sem, recoverD, hu, Tryz.ntmps216, Exit.thenS]
  apply wpS_seq
  apply wpS_region
  simp [wpOpsS, go_sem, Exit.thenS]
  refine wpS_cond (t := false) (by simp [Act.eval, Array.replicate]) ?_
  simp only [Bool.false_eq_true, if_false]
  refine wpS_of_wp (wp_skip ?_)
  simp only [Exit.thenS]
  apply wpS_seq
  apply wpS_region
  simp [wpOpsS, go_sem, hx, c2, Exit.thenS]
  refine wpS_cond (t := false) (by simp [Act.eval, Array.replicate]) ?_
  simp only [Bool.false_eq_true, if_false]
  refine wpS_of_wp (wp_skip ?_)
  cases c₀
  simp_all [bodyPostS, results, Tryz.results216]
set_option maxRecDepth 100000 in
set_option maxHeartbeats 2000000 in
theorem taken64_calls (w : World) (b A o n x : Nat) (h : Rd w b (.slice (some ⟨A, o, none⟩) n n)) (hx : x = 0 ∨ x = 2) (hn : 1 ≤ n) (hA : A ≠ b) (hAl : A < w.heap.size) (hc : w.cell? ⟨A, o, none⟩ = some (.int .u8 x)) : Calls Tryz.prog 148 #[.pointer (some ⟨b, 0, none⟩), .func (.func 149) #[.pointer (some ⟨b, 0, none⟩)] #[]] w fun e w' => e = .returned (.int .u64 x) ∧ ∃ o', Rd w' b (.slice (some ⟨A, o', none⟩) (n - 1) (n - 1)) ∧ (1 < n → o' = o + 1) ∧ Kp (fun q => q < w.heap.size ∧ q ≠ b) w w' := by
  have hmf : ∀ (fn : Fn) (first cap : Array Value) (w : World), (Instr.makeFunc fn first cap).run Tryz.prog w = .ok (.func fn first cap) w := fun _ _ _ _ => rfl
  obtain ⟨W1, hW1⟩ : ∃ W1, W1 = ((w.alloc (.cells #[.pointer (some ⟨b, 0, none⟩)] 162)).alloc (.cells #[.int .u64 0] 30)).alloc (.cells #[.int .u64 0] 30) := ⟨_, rfl⟩
  have b0 : W1.heap[w.heap.size]? = some (.cells #[.pointer (some ⟨b, 0, none⟩)] 162 (0, 0)) := by
    rw [hW1, heap_alloc_old _ _ (by simp; omega), heap_alloc_old _ _ (by simp)]
    exact heap_alloc_new w _
  have b1 : W1.heap[w.heap.size + 1]? = some (.cells #[.int .u64 0] 30 (0, 0)) := by
    rw [hW1, heap_alloc_old _ _ (by simp)]
    simpa using heap_alloc_new (w.alloc (.cells #[.pointer (some ⟨b, 0, none⟩)] 162)) (.cells #[.int .u64 0] 30)
  have hB1 : Below w.heap.size w W1 := hW1 ▸ (((Below.refl _ _).alloc (Nat.le_refl _) _).alloc (by simp) _).alloc (by simp; omega) _
  have hs1 : W1.heap.size = w.heap.size + 1 + 1 + 1 := by rw [hW1]; simp
  have hbl := h.lt
  have hr1 := h.below hB1
  have k0 : W1.cell? ⟨w.heap.size, 0, none⟩ = some (.pointer (some ⟨b, 0, none⟩)) := (cellD b0 0).1
  obtain ⟨-, -, -, k2⟩ := hr1.got
  have HN := Lib.hid (show _ ∧ _ ∧ _ ∧ _ from ⟨rnum_calls W1 b A o n x hr1 hx hn hA ((hB1.cell (p := ⟨A, o, none⟩) hAl).trans hc), b0, b1, hB1⟩)
  clear h hr1 b0 b1 hB1 hc
  go_enter_defers Tryz.func148, Tryz.ntmps148
  go_upto_region 2 with (fail)
  rw [← hW1]
  clear hW1
  go_wp2_with (first
    | (go_at_call 149; refine HN.out.1.mono ?_; rintro y w2 ⟨rfl, o1, h1, h2, h3⟩; have n0 := (h3.block w.heap.size (by omega)).trans HN.out.2.1; have n1 := (h3.block (w.heap.size + 1) (by omega)).trans HN.out.2.2.1; have c1 : w2.cell? ⟨w.heap.size + 1, 0, none⟩ = some (.int .u64 0) := (cellD n1 0).1; have c1f : w2.frozen? ⟨w.heap.size + 1, 0, none⟩ = false := (cellD n1 0).2; have hE : (w2.setCell ⟨w.heap.size + 1, 0, none⟩ (.int .u64 x)).cell? ⟨w.heap.size + 1, 0, none⟩ = some (.int .u64 x) := World.cell?_setCell_same' _ _ _ (by simp [go_sem, c1]); have H2 := Lib.hid (show _ ∧ _ ∧ _ ∧ _ from ⟨h1, h2, h3, n0⟩); clear h1 h2 h3 n0 n1))
  refine leaves_cons (f := 216) (args := #[.pointer (some ⟨w.heap.size, 0, none⟩), .pointer (some ⟨w.heap.size + 1 + 1, 0, none⟩), .pointer (some ⟨w.heap.size + 1, 0, none⟩)]) (by simp) (by simp [go_sem]) ?_
  have hrF : Rd (w2.setCell ⟨w.heap.size + 1, 0, none⟩ (.int .u64 x)) b (.slice (some ⟨A, o1, none⟩) (n - 1) (n - 1)) := (set_other _ ⟨w.heap.size + 1, 0, none⟩ _ _ (by simp only; omega)).trans H2.out.1
  have hxF : (w2.setCell ⟨w.heap.size + 1, 0, none⟩ (.int .u64 x)).cell? ⟨w.heap.size, 0, none⟩ = some (.pointer (some ⟨b, 0, none⟩)) := (cellD ((set_other _ ⟨w.heap.size + 1, 0, none⟩ _ _ (by simp only; omega)).trans H2.out.2.2.2) 0).1
  refine (taken_idle _ _ b _ _ _ hrF hxF).mono ?_
  rintro e u' w'' ⟨rfl, rfl, rfl⟩
  simp [Leaves, settle, results, Tryz.results148, go_sem, hE]
  exact ⟨o1, hrF, H2.out.2.1, kpset ((Kp.of_below HN.out.2.2.2 fun q hq => hq.1).trans (H2.out.2.2.1.mono fun q hq => hq.2)) ⟨w.heap.size + 1, 0, none⟩ _ (by simp only; omega)⟩
theorem rNum_calls (w : World) (b A o n x : Nat) (h : Rd w b (.slice (some ⟨A, o, none⟩) n n)) (hx : x = 0 ∨ x = 2) (hn : 1 ≤ n) (hA : A ≠ b) (hAl : A < w.heap.size) (hc : w.cell? ⟨A, o, none⟩ = some (.int .u8 x)) : Calls Tryz.prog 83 #[.pointer (some ⟨b, 0, none⟩)] w fun e w' => e = .returned (.int .u64 x) ∧ ∃ o', Rd w' b (.slice (some ⟨A, o', none⟩) (n - 1) (n - 1)) ∧ (1 < n → o' = o + 1) ∧ Kp (fun q => q < w.heap.size ∧ q ≠ b) w w' := by
  have HT := Lib.hid (taken64_calls w b A o n x h hx hn hA hAl hc)
  clear h hc
  go_enter Tryz.func83, Tryz.ntmps83
  go_wp2_with (first
    | (go_at_call 148; refine HT.out.mono ?_; rintro y w1 ⟨rfl, h1⟩; have H1 := Lib.hid h1; clear h1))
  go_ret
  exact ⟨rfl, H1.out⟩
theorem rdone_calls (w : World) (b : Nat) (a : Option Addr) (h : Rd w b (.slice a 0 0)) : Calls Tryz.prog 86 #[.pointer (some ⟨b, 0, none⟩)] w fun e w' => e = .returned (.int .i64 0) ∧ w' = w := by
  obtain ⟨c0, -, c1, c2⟩ := h.got
  clear h
  go_enter Tryz.func86, Tryz.ntmps86
  go_wp2
  go_ret
  exact ⟨rfl, rfl⟩
set_option maxRecDepth 100000 in
theorem rsize_calls (w : World) (b A o : Nat) (h : Rd w b (.slice (some ⟨A, o, none⟩) 4 4)) (hA : A ≠ b) (hc : w.cell? ⟨A, o, none⟩ = some (.int .u8 2)) : Calls Tryz.prog 145 #[.pointer (some ⟨b, 0, none⟩), .int .u64 262144] w fun e w' => e = .returned (.int .i64 2) ∧ Rd w' b (.slice (some ⟨A, o + 1, none⟩) 3 3) ∧ Kp (fun q => q ≠ b) w w' := by
  have HN := Lib.hid (rnum_calls w b A o 4 2 h (.inr rfl) (by decide) hA hc)
  clear h hc
  go_enter Tryz.func145, Tryz.ntmps145
  go_wp2_with (first
    | (go_at_call 149; refine HN.out.mono ?_; rintro y w1 ⟨rfl, o1, h1, h2, h3⟩; obtain rfl := h2 (by decide); obtain ⟨c0, -, c1, c2⟩ := h1.got; simp at c0; have H1 := Lib.hid (show _ ∧ _ from ⟨h1, h3⟩); clear h1 h2 h3))
  go_ret
  exact ⟨rfl, H1.out⟩
set_option maxRecDepth 100000 in
theorem copied_calls (w : World) (A o : Nat) (hA : A < w.heap.size) (hr : w.rangeAt A o [.int .u8 0, .int .u8 0]) : Calls Tryz.prog 146 #[.slice (some ⟨A, o, none⟩) 2 2] w fun e w' => ∃ g c, e = .returned (.slice (some ⟨g, 0, none⟩) 2 c) ∧ w'.rangeAt g 0 [.int .u8 0, .int .u8 0] ∧ w.heap.size ≤ g ∧ g < w'.heap.size ∧ Below w.heap.size w w' := by
  have HR := Lib.hid hr
  clear hr
  go_enter Tryz.func146, Tryz.ntmps146
  obtain ⟨ie, z, hie, hze, hisz, hib, hzs⟩ : ∃ ie z, Tryz.prog.info? 5 = some ie ∧ ie.zero = some z ∧ ie.size = 1 ∧ ie.bytes = 1 ∧ z.cells.size = 1 := ⟨_, _, rfl, rfl, rfl, rfl, rfl⟩
  go_wp2_with (first
    | (at_make; refine wpList_make_own _ rfl _ _ 23 rfl 0 5 ie z 1 Tryz.underlying23 hie hze hisz .i64 .i64 2 2 rfl rfl rfl (by rw [hib]; decide) (by unfold maxLen; omega) (Nat.zero_le _) ?_; intro w1 hown hg1; have H1 := Lib.hid (show Ou w1 (.slice (some ⟨w.heap.size, 0, none⟩) 0 2) [] (· < w.heap.size) ∧ Below w.heap.size w w1 from ⟨⟨hown, fun b hb => ⟨Nat.lt_of_lt_of_le hb hg1.size, by simp [Value.ownBlock]; omega⟩⟩, Below.of_grown hg1⟩); have HA := Lib.hid (range_below HR.out H1.out.2 hA); clear hown hg1)
    | (refine wp_app rfl (.tmp 8) (.tmp 9) rfl _ [] _ rfl H1.out.1 ⟨A, o, none⟩ 2 2 [.int .u8 0, .int .u8 0] rfl rfl (fun j u hu => by have := HA.out j u hu; unfold Addr.add; split <;> simp_all) (by simp [Value.oneCell']) (by decide) ?_; intro v2 w2 ho2 hk2; have H2 := Lib.hid (show _ ∧ _ from ⟨ho2, hk2⟩); clear ho2 hk2))
  obtain ⟨a2, c2, rfl, -, hf⟩ := H2.out.1.form
  obtain ⟨g, rfl, hgl, hgu, hgr⟩ := hf (by simp)
  go_ret
  exact ⟨g, c2, rfl, hgr, by omega, hgl, H1.out.2.trans ((H2.out.2.to_below))⟩
end Go.Proofs.YtokflmiijdpchaaGreat
