/- parcel's Reader: Text of two bytes; Read. table.Read and shard.Import of an empty table's and shard's form. The rows of an empty table and shard. -/
import Derived.Test.YtokflmiijdpchaaGreatD51
namespace Go.Proofs.YtokflmiijdpchaaGreat
open Go.RowKit
attribute [local go_sem] Oper.semAt_some
theorem range_drop {w w' : World} {A o : Nat} {v : Value} {cs : List Value} (h : w.rangeAt A o (v :: cs)) (hb : w'.heap[A]? = w.heap[A]?) : w'.rangeAt A (o + 1) cs := fun j u hu => by
  have := h (j + 1) u (by simpa using hu)
  rw [World.cell?_of_block (w := w) hb, show o + 1 + j = o + (j + 1) by omega]
  exact this
theorem range_take2 {w : World} {A o : Nat} {a b c : Value} (h : w.rangeAt A o [a, b, c]) : w.rangeAt A o [a, b] := fun j u hu => by
  have hj := (List.getElem?_eq_some_iff.1 hu).1
  simp at hj
  rcases (show j = 0 ∨ j = 1 by omega) with rfl | rfl
  · exact h 0 u hu
  · exact h 1 u hu
set_option maxRecDepth 100000 in
theorem text1_calls (w : World) (b A o x y : Nat) (h : Rd w b (.slice (some ⟨A, o, none⟩) 4 4)) (hA : A ≠ b) (hAl : A < w.heap.size) (hr : w.rangeAt A o [.int .u8 2, .int .u8 0, .int .u8 0, .int .u8 0]) (hx : w.heap[x]? = some (.cells #[.pointer (some ⟨b, 0, none⟩)] 162 (0, 0))) (hy : w.cell? ⟨y, 0, none⟩ = some (.int .i64 262144)) (hxb : x ≠ b) : Calls Tryz.prog 144 #[.pointer (some ⟨x, 0, none⟩), .pointer (some ⟨y, 0, none⟩)] w fun e w' => ∃ g c, e = .returned (.slice (some ⟨g, 0, none⟩) 2 c) ∧ w'.rangeAt g 0 [.int .u8 0, .int .u8 0] ∧ w.heap.size ≤ g ∧ g < w'.heap.size ∧ Rd w' b (.slice (some ⟨A, o + 3, none⟩) 1 1) ∧ Kp (fun q => q < w.heap.size ∧ q ≠ b) w w' := by
  have x0 : w.cell? ⟨x, 0, none⟩ = some (.pointer (some ⟨b, 0, none⟩)) := (cellD hx 0).1
  have hbl := h.lt
  have hc0 : w.cell? ⟨A, o, none⟩ = some (.int .u8 2) := by simpa using hr 0 _ rfl
  have HR := Lib.hid (show _ ∧ _ ∧ _ from ⟨rsize_calls w b A o h hA hc0, hx, hr⟩)
  clear h hx hr hc0
  go_enter Tryz.func144, Tryz.ntmps144
  go_wp2_with (first
    | (go_at_call 145; refine HR.out.1.mono ?_; rintro e w1 ⟨rfl, h1, h2⟩; have x1 : w1.cell? ⟨x, 0, none⟩ = some (.pointer (some ⟨b, 0, none⟩)) := (cellD ((h2.block x hxb).trans HR.out.2.1) 0).1; have H1 := Lib.hid (show _ ∧ _ from ⟨h1, h2⟩); clear h1 h2)
    | (go_at_call 147; refine (next_calls w1 b A (o + 1) 3 2 H1.out.1 (by decide)).mono ?_; rintro e w2 ⟨rfl, o2, h1, h2, h3⟩; obtain rfl := h2 (by decide); have H2 := Lib.hid (show _ ∧ _ from ⟨h1, H1.out.2.trans h3⟩); clear h1 h2 h3)
    | (go_at_call 146; refine (copied_calls w2 A (o + 1) (Nat.lt_of_lt_of_le hAl H2.out.2.size) (range_take2 (range_drop HR.out.2.2 (H2.out.2.block A hA)))).mono ?_; rintro e w3 ⟨g, c, rfl, h1, h2, h3, h4⟩; have H3 := Lib.hid (show _ ∧ _ ∧ _ ∧ _ from ⟨h1, h2, h3, h4⟩); clear h1 h2 h3 h4))
  go_ret
  have hs2 := H2.out.2.size
  exact ⟨g, c, rfl, H3.out.1, by have := H3.out.2.1; omega, H3.out.2.2.1, H2.out.1.below H3.out.2.2.2, (H2.out.2.mono fun q hq => hq.2).trans (Kp.of_below H3.out.2.2.2 fun q hq => by omega)⟩
/-- The door of take, where nothing is recovered and no fault is set. -/
theorem takeb_idle (w : World) (x b z v : Nat) (l : Value) (h : Rd w b l) (hx : w.cell? ⟨x, 0, none⟩ = some (.pointer (some ⟨b, 0, none⟩))) : CallsD Tryz.prog 215 #[.pointer (some ⟨x, 0, none⟩), .pointer (some ⟨z, 0, none⟩), .pointer (some ⟨v, 0, none⟩)] .returning w fun e u' w' => e = .returned (.tuple #[]) ∧ u' = .returning ∧ w' = w := by
  obtain ⟨-, -, -, c2⟩ := h.got
  clear h
  refine callsD_of_wpS Tryz.func215 rfl fun c₀ cs hu => ?_
  apply wpS_seq
  apply wpS_seq
  apply wpS_region
  simp [wpOpsS, go_sem, recoverD, hu, Tryz.ntmps215, Exit.thenS]
  apply wpS_seq
  apply wpS_region
  simp [wpOpsS, go_sem, Exit.thenS]
  refine wpS_cond (t := false) (by simp [Act.eval, Array.replicate]) ?_
  simp only [Bool.false_eq_true, if_false]
  refine wpS_of_wp (wp_skip ?_)
  simp only [Exit.thenS]
  apply wpS_seq
  apply wpS_region
  simp [wpOpsS, go_sem, hx, c2, Exit.thenS]
  refine wpS_cond (t := false) (by simp [Act.eval, Array.replicate]) ?_
  simp only [Bool.false_eq_true, if_false]
  refine wpS_of_wp (wp_skip ?_)
  cases c₀
  simp_all [bodyPostS, results, Tryz.results215]
set_option maxRecDepth 100000 in
set_option maxHeartbeats 2000000 in
theorem takeb_calls (w : World) (b A o x y : Nat) (h : Rd w b (.slice (some ⟨A, o, none⟩) 4 4)) (hA : A ≠ b) (hAl : A < w.heap.size) (hr : w.rangeAt A o [.int .u8 2, .int .u8 0, .int .u8 0, .int .u8 0]) (hx : w.heap[x]? = some (.cells #[.pointer (some ⟨b, 0, none⟩)] 162 (0, 0))) (hy : w.cell? ⟨y, 0, none⟩ = some (.int .i64 262144)) (hyl : y < w.heap.size) (hxb : x ≠ b) : Calls Tryz.prog 143 #[.pointer (some ⟨b, 0, none⟩), .func (.func 144) #[] #[.pointer (some ⟨x, 0, none⟩), .pointer (some ⟨y, 0, none⟩)]] w fun e w' => ∃ g c, e = .returned (.slice (some ⟨g, 0, none⟩) 2 c) ∧ w'.rangeAt g 0 [.int .u8 0, .int .u8 0] ∧ w.heap.size ≤ g ∧ g < w'.heap.size ∧ Rd w' b (.slice (some ⟨A, o + 3, none⟩) 1 1) ∧ Kp (fun q => q < w.heap.size ∧ q ≠ b) w w' := by
  have hmf : ∀ (fn : Fn) (first cap : Array Value) (w : World), (Instr.makeFunc fn first cap).run Tryz.prog w = .ok (.func fn first cap) w := fun _ _ _ _ => rfl
  obtain ⟨W1, hW1⟩ : ∃ W1, W1 = ((w.alloc (.cells #[.pointer (some ⟨b, 0, none⟩)] 162)).alloc (.cells #[.slice none 0 0] 23)).alloc (.cells #[.slice none 0 0] 23) := ⟨_, rfl⟩
  have b0 : W1.heap[w.heap.size]? = some (.cells #[.pointer (some ⟨b, 0, none⟩)] 162 (0, 0)) := by
    rw [hW1, heap_alloc_old _ _ (by simp; omega), heap_alloc_old _ _ (by simp)]
    exact heap_alloc_new w _
  have b1 : W1.heap[w.heap.size + 1]? = some (.cells #[.slice none 0 0] 23 (0, 0)) := by
    rw [hW1, heap_alloc_old _ _ (by simp)]
    simpa using heap_alloc_new (w.alloc (.cells #[.pointer (some ⟨b, 0, none⟩)] 162)) (.cells #[.slice none 0 0] 23)
  have hB1 : Below w.heap.size w W1 := hW1 ▸ (((Below.refl _ _).alloc (Nat.le_refl _) _).alloc (by simp) _).alloc (by simp; omega) _
  have hs1 : W1.heap.size = w.heap.size + 1 + 1 + 1 := by rw [hW1]; simp
  have hbl := h.lt
  have hxl := (Array.getElem?_eq_some_iff.1 hx).1
  have hr1 := h.below hB1
  have k0 : W1.cell? ⟨w.heap.size, 0, none⟩ = some (.pointer (some ⟨b, 0, none⟩)) := (cellD b0 0).1
  obtain ⟨-, -, -, k2⟩ := hr1.got
  have HN := Lib.hid (show _ ∧ _ ∧ _ ∧ _ from ⟨text1_calls W1 b A o x y hr1 hA (by omega) (range_below hr hB1 hAl) ((hB1.block x hxl).trans hx) ((hB1.cell (p := ⟨y, 0, none⟩) hyl).trans hy) hxb, b0, b1, hB1⟩)
  clear h hr1 b0 b1 hB1 hx hy hr
  go_enter_defers Tryz.func143, Tryz.ntmps143
  go_upto_region 2 with (fail)
  rw [← hW1]
  clear hW1
  go_wp2_with (first
    | (go_at_call 144; refine HN.out.1.mono ?_; rintro q w2 ⟨g, c, rfl, h1, h2, h2l, h3, h4⟩; have n0 := (h4.block w.heap.size (by omega)).trans HN.out.2.1; have n1 := (h4.block (w.heap.size + 1) (by omega)).trans HN.out.2.2.1; have c1 : w2.cell? ⟨w.heap.size + 1, 0, none⟩ = some (.slice none 0 0) := (cellD n1 0).1; have c1f : w2.frozen? ⟨w.heap.size + 1, 0, none⟩ = false := (cellD n1 0).2; have hE : (w2.setCell ⟨w.heap.size + 1, 0, none⟩ (.slice (some ⟨g, 0, none⟩) 2 c)).cell? ⟨w.heap.size + 1, 0, none⟩ = some (.slice (some ⟨g, 0, none⟩) 2 c) := World.cell?_setCell_same' _ _ _ (by simp [go_sem, c1]); have H2 := Lib.hid (show _ ∧ _ ∧ _ ∧ _ ∧ _ ∧ _ from ⟨h1, h2, h2l, h3, h4, n0⟩); clear h1 h2 h2l h3 h4 n0 n1))
  refine leaves_cons (f := 215) (args := #[.pointer (some ⟨w.heap.size, 0, none⟩), .pointer (some ⟨w.heap.size + 1 + 1, 0, none⟩), .pointer (some ⟨w.heap.size + 1, 0, none⟩)]) (by simp) (by simp [go_sem]) ?_
  have hrF : Rd (w2.setCell ⟨w.heap.size + 1, 0, none⟩ (.slice (some ⟨g, 0, none⟩) 2 c)) b (.slice (some ⟨A, o + 3, none⟩) 1 1) := (set_other _ ⟨w.heap.size + 1, 0, none⟩ _ _ (by simp only; omega)).trans H2.out.2.2.2.1
  have hxF : (w2.setCell ⟨w.heap.size + 1, 0, none⟩ (.slice (some ⟨g, 0, none⟩) 2 c)).cell? ⟨w.heap.size, 0, none⟩ = some (.pointer (some ⟨b, 0, none⟩)) := (cellD ((set_other _ ⟨w.heap.size + 1, 0, none⟩ _ _ (by simp only; omega)).trans H2.out.2.2.2.2.2) 0).1
  refine (takeb_idle _ _ b _ _ _ hrF hxF).mono ?_
  rintro e u' w'' ⟨rfl, rfl, rfl⟩
  simp [Leaves, settle, results, Tryz.results143, go_sem, hE]
  have hk := kp_other w2 ⟨w.heap.size + 1, 0, none⟩ (.slice (some ⟨g, 0, none⟩) 2 c)
  have hg := H2.out.2.1
  exact ⟨fun j u hu => (World.cell?_of_block (w := w2) (hk.block g (by simp only; omega))).trans (H2.out.1 j u hu), by omega, H2.out.2.2.1, hrF, kpset ((Kp.of_below HN.out.2.2.2 fun q hq => hq.1).trans (H2.out.2.2.2.2.1.mono fun q hq => ⟨by omega, hq.2⟩)) ⟨w.heap.size + 1, 0, none⟩ _ (by simp only; omega)⟩
set_option maxRecDepth 100000 in
theorem rText_calls (w : World) (b A o : Nat) (h : Rd w b (.slice (some ⟨A, o, none⟩) 4 4)) (hA : A ≠ b) (hAl : A < w.heap.size) (hr : w.rangeAt A o [.int .u8 2, .int .u8 0, .int .u8 0, .int .u8 0]) : Calls Tryz.prog 82 #[.pointer (some ⟨b, 0, none⟩), .int .i64 262144] w fun e w' => ∃ g c, e = .returned (.slice (some ⟨g, 0, none⟩) 2 c) ∧ w'.rangeAt g 0 [.int .u8 0, .int .u8 0] ∧ w.heap.size ≤ g ∧ g < w'.heap.size ∧ Rd w' b (.slice (some ⟨A, o + 3, none⟩) 1 1) ∧ Kp (fun q => q < w.heap.size ∧ q ≠ b) w w' := by
  have hmf : ∀ (fn : Fn) (first cap : Array Value) (w : World), (Instr.makeFunc fn first cap).run Tryz.prog w = .ok (.func fn first cap) w := fun _ _ _ _ => rfl
  obtain ⟨W1, hW1⟩ : ∃ W1, W1 = (w.alloc (.cells #[.pointer (some ⟨b, 0, none⟩)] 162)).alloc (.cells #[.int .i64 262144] 3) := ⟨_, rfl⟩
  have b0 : W1.heap[w.heap.size]? = some (.cells #[.pointer (some ⟨b, 0, none⟩)] 162 (0, 0)) := by
    rw [hW1, heap_alloc_old _ _ (by simp)]
    exact heap_alloc_new w _
  have b1 : W1.heap[w.heap.size + 1]? = some (.cells #[.int .i64 262144] 3 (0, 0)) := by
    rw [hW1]
    simpa using heap_alloc_new (w.alloc (.cells #[.pointer (some ⟨b, 0, none⟩)] 162)) (.cells #[.int .i64 262144] 3)
  have hB1 : Below w.heap.size w W1 := hW1 ▸ ((Below.refl _ _).alloc (Nat.le_refl _) _).alloc (by simp) _
  have hs1 : W1.heap.size = w.heap.size + 1 + 1 := by rw [hW1]; simp
  have hbl := h.lt
  have k0 : W1.cell? ⟨w.heap.size, 0, none⟩ = some (.pointer (some ⟨b, 0, none⟩)) := (cellD b0 0).1
  have HN := Lib.hid (show _ ∧ _ from ⟨takeb_calls W1 b A o w.heap.size (w.heap.size + 1) (h.below hB1) hA (by omega) (range_below hr hB1 hAl) b0 (cellD b1 0).1 (by omega) (by omega), hB1⟩)
  clear h b0 b1 hB1 hr
  go_enter Tryz.func82, Tryz.ntmps82
  go_upto_region 1 with (fail)
  rw [← hW1]
  clear hW1
  go_wp2_with (first
    | (go_at_call 143; refine HN.out.1.mono ?_; rintro q w2 ⟨g, c, rfl, h1⟩; have H2 := Lib.hid h1; clear h1))
  go_ret
  exact ⟨g, c, rfl, H2.out.1, by have := H2.out.2.1; omega, H2.out.2.2.1, H2.out.2.2.2.1, (Kp.of_below HN.out.2 fun q hq => hq.1).trans (H2.out.2.2.2.2.mono fun q hq => ⟨by omega, hq.2⟩)⟩
set_option maxRecDepth 100000 in
theorem pread_calls (w : World) (g n c : Nat) (xs : List Value) (hg : g < w.heap.size) (hl : xs.length = n) (hm : n ≤ 1048576) (hr : w.rangeAt g 0 xs) (h1 : ∀ u ∈ xs, u.oneCell' = true) :
    Calls Tryz.prog 80 #[.slice (some ⟨g, 0, none⟩) n c] w fun e w' => ∃ b A, e = .returned (.pointer (some ⟨b, 0, none⟩)) ∧ Rd w' b (.slice (some ⟨A, 0, none⟩) n n) ∧ w'.rangeAt A 0 xs ∧ A ≠ b ∧ w.heap.size ≤ A ∧ A < w'.heap.size ∧ w.heap.size ≤ b ∧ Below w.heap.size w w' := by
  obtain ⟨ie, z, hie, hze, hisz, hib, hzs⟩ : ∃ ie z, Tryz.prog.info? 5 = some ie ∧ ie.zero = some z ∧ ie.size = 1 ∧ ie.bytes = 1 ∧ z.cells.size = 1 := ⟨_, _, rfl, rfl, rfl, rfl, rfl⟩
  have HO := Lib.hid (show _ ∧ _ from ⟨hr, h1⟩)
  clear hr h1
  go_enter Tryz.func80, Tryz.ntmps80
  go_wp2_with (first
    | (at_make; refine wpList_make_full _ rfl _ _ 23 rfl 0 5 ie z 1 Tryz.underlying23 hie hze hisz .i64 .i64 n n n rfl rfl rfl rfl (by rw [hib]; omega) (by unfold maxLen; omega) (Nat.zero_le _) ?_; intro w1 hown hg1; have hb1 := Below.of_grown hg1; have H1 := Lib.hid (show _ ∧ _ from ⟨hown, hb1⟩); clear hown hg1 hb1)
    | (refine wp_copy_all rfl (.tmp 7) (.tmp 8) rfl w.heap.size n n (Classical.choose (own_cells H1.out.1)) (Classical.choose_spec (own_cells H1.out.1)).1 (Classical.choose_spec (own_cells H1.out.1)).2 rfl g 0 c xs rfl (range_below HO.out.1 H1.out.2 hg) hl HO.out.2 ?_; intro w2 hc2 hg2; have H2 := Lib.hid (show _ ∧ _ from ⟨hc2, hg2⟩); clear hc2 hg2))
  have hs1 := H1.out.2.size
  have hs2 := H2.out.2.size
  have hA := (Array.getElem?_eq_some_iff.1 H2.out.1).1
  have hb2 : Below w.heap.size w w2 := H1.out.2.grown H2.out.2 H1.out.2.size (fun q hq => by cases hq; exact Nat.le_refl _)
  go_ret
  refine ⟨_, _, rfl, heap_alloc_new w2 _, range_below (by simpa using range_whole H2.out.1) ((Below.refl _ _).alloc (Nat.le_refl _) _) hA, by omega, Nat.le_refl _, by simp; omega, by omega, hb2.alloc (by omega) _⟩
end Go.Proofs.YtokflmiijdpchaaGreat
namespace Go.Proofs.YtokflmiijdpchaaGreat
open Go.RowKit
attribute [local go_sem] Oper.semAt_some
theorem tb_set {w : World} {t : Nat} (h : Tb w t) : Tb (w.setCell ⟨t, 1, none⟩ (.int .i64 0)) t := block_set h 1 _
set_option maxRecDepth 100000 in
set_option maxHeartbeats 2000000 in
theorem tread_calls (w : World) (g c : Nat) (hg : g < w.heap.size) (hr : w.rangeAt g 0 [.int .u8 0, .int .u8 0]) : Calls Tryz.prog 81 #[.slice (some ⟨g, 0, none⟩) 2 c] w fun e w' => ∃ t, e = .returned (.tuple #[.pointer (some ⟨t, 0, none⟩), .int .i64 0]) ∧ Tb w' t ∧ w.heap.size ≤ t ∧ Below w.heap.size w w' := by
  have HO := Lib.hid (pread_calls w g 2 c _ hg rfl (by decide) hr (by simp [Value.oneCell']))
  have hmm := @run_makeMap Tryz.prog
  clear hr
  go_enter Tryz.func81, Tryz.ntmps81
  go_upto_region 3 with (first
    | (go_at_call 80; refine HO.out.mono ?_; rintro y w1 ⟨b, A, rfl, h1, h2, h3, h4, h5, h6, h7⟩; have hsA : A ≠ b := h3; have hl1 := h1.lt; have H1 := Lib.hid (show _ ∧ _ ∧ _ ∧ _ ∧ _ ∧ _ from ⟨h1, h2, h4, h5, h6, h7⟩); have HN := Lib.hid (rNum_calls w1 b A 0 2 0 h1 (.inl rfl) (by decide) h3 h5 (by simpa using h2 0 _ rfl)); clear h1 h2 h3 h4 h5 h6 h7)
    | (go_at_call 83; first
        | (refine HN.out.mono ?_; rintro y w2 ⟨rfl, o1, h1, h2, h3⟩; obtain rfl := h2 (by decide); clear HN; have HN2 := Lib.hid (show _ ∧ _ from ⟨rNum_calls w2 b A 1 1 0 h1 (.inl rfl) (by decide) hsA (Nat.lt_of_lt_of_le H1.out.2.2.2.1 h3.size) ((World.cell?_of_block (w := w1) (h3.block A ⟨H1.out.2.2.2.1, hsA⟩)).trans (by simpa using H1.out.2.1 1 _ rfl)), h3⟩); clear h1 h2 h3)
        | (refine HN2.out.1.mono ?_; rintro y w3 ⟨rfl, o2, h1, -, h3⟩; have H3 := Lib.hid (show _ ∧ _ from ⟨h1, HN2.out.2.trans (h3.mono fun q hq => ⟨Nat.lt_of_lt_of_le hq.1 HN2.out.2.size, hq.2⟩)⟩); clear h1 h3)))
  have hl3 := H3.out.1.lt
  have hs3 := H3.out.2.size
  have H4 := Lib.hid (show Tb (w3.alloc (.cells #[.pointer none, .int .i64 0, .int .i64 0] 242)) w3.heap.size ∧ Below w3.heap.size w3 (w3.alloc (.cells #[.pointer none, .int .i64 0, .int .i64 0] 242)) from ⟨heap_alloc_new w3 _, (Below.refl _ _).alloc (Nat.le_refl _) _⟩)
  go_upto_region 6 with ((go_at_call 128; refine (tnew_calls w3).mono ?_; rintro y w4 ⟨rfl, hw⟩; obtain rfl := hw.symm))
  clear HO
  have hw3 : Below w.heap.size w w3 := H1.out.2.2.2.2.2.trans (H3.out.2.mono fun q hq => ⟨Nat.lt_of_lt_of_le hq H1.out.2.2.2.2.2.size, by have := H1.out.2.2.2.2.1; omega⟩).to_below
  have hsw := hw3.size
  have hB5 : Below w3.heap.size w3 ((w3.alloc (.cells #[.pointer none, .int .i64 0, .int .i64 0] 242)).alloc (.map #[] 0)) := H4.out.2.alloc (by simp) _
  have H5 := Lib.hid (show Tb ((w3.alloc (.cells #[.pointer none, .int .i64 0, .int .i64 0] 242)).alloc (.map #[] 0)) w3.heap.size ∧ Below w.heap.size w ((w3.alloc (.cells #[.pointer none, .int .i64 0, .int .i64 0] 242)).alloc (.map #[] 0)) ∧ Rd ((w3.alloc (.cells #[.pointer none, .int .i64 0, .int .i64 0] 242)).alloc (.map #[] 0)) b (.slice (some ⟨A, o2, none⟩) 0 0) from ⟨(heap_alloc_old _ _ (by simp)).trans H4.out.1, hw3.trans (hB5.mono hsw), H3.out.1.below hB5⟩)
  clear hB5 hw3
  go_wp2
  generalize (w3.alloc (.cells #[.pointer none, .int .i64 0, .int .i64 0] 242)).alloc (.map #[] 0) = W5 at H5 ⊢
  go_loopw [6, 8] (fun a gd wr => a = .int .u64 0 ∧ gd = .bool true ∧ wr = W5) (fun _ _ _ => 0)
  case atStart => exact ⟨rfl, rfl, rfl⟩
  case round =>
    obtain ⟨rfl, rfl, rfl⟩ := hrel
    go_wp2_with ((go_at_call 86; refine (rdone_calls _ b _ H5.out.2.2).mono ?_; rintro y w7 ⟨rfl, hw⟩; obtain rfl := hw.symm))
    go_ret2
    exact ⟨_, rfl, H5.out.1, hsw, H5.out.2.1⟩
set_option maxRecDepth 100000 in
set_option maxHeartbeats 2000000 in
theorem simport_calls (w : World) (g : Nat) (hg : g < w.heap.size) (hr : w.rangeAt g 0 [.int .u8 2, .int .u8 0, .int .u8 0, .int .u8 0]) : Calls Tryz.prog 45 #[.slice (some ⟨g, 0, none⟩) 4 4] w fun e w' => ∃ s t, e = .returned (.tuple #[.pointer (some ⟨s, 0, none⟩), .int .i64 0]) ∧ Shd w' s t ∧ Below w.heap.size w w' := by
  have HO := Lib.hid (pread_calls w g 4 4 _ hg rfl (by decide) hr (by simp [Value.oneCell']))
  have hmm := @run_makeMap Tryz.prog
  clear hr
  go_enter Tryz.func45, Tryz.ntmps45
  go_upto_region 7 with (first
    | (go_at_call 80; refine HO.out.mono ?_; rintro y w1 ⟨b, A, rfl, h1, h2, h3, h4, h5, h6, h7⟩; have hsA : A ≠ b := h3; have hl1 := h1.lt; have H1 := Lib.hid (show _ ∧ _ ∧ _ ∧ _ ∧ _ ∧ _ from ⟨h1, h2, h4, h5, h6, h7⟩); have HN := Lib.hid (rText_calls w1 b A 0 h1 h3 h5 h2); clear h1 h2 h3 h4 h5 h6 h7)
    | (go_at_call 82; refine HN.out.mono ?_; rintro y w2 ⟨gt, ct, rfl, h1, h2, h3, h4, h5⟩; have H2 := Lib.hid (show _ ∧ _ ∧ _ ∧ _ from ⟨h2, h3, h4, h5⟩); have HT := Lib.hid (tread_calls w2 gt ct h3 h1); clear h1 h2 h3 h4 h5)
    | (go_at_call 81; refine HT.out.mono ?_; rintro y w3 ⟨t, rfl, h1, h2, h3⟩; have H3 := Lib.hid (show _ ∧ _ ∧ _ from ⟨h1, h2, h3⟩); clear h1 h2 h3))
  go_upto_region 8 with (fail)
  have hz : Tryz.zeroCells172.setIfInBounds 0 (Value.pointer (some ⟨t, 0, none⟩)) = (Value.pointer (some ⟨t, 0, none⟩) :: seats0).toArray := by rfl
  rw [hz]
  clear hz
  have hs1 := H1.out.2.2.2.2.2.size
  have hs2 := H2.out.2.2.2.size
  have hs3 := H3.out.2.2.size
  have hAl := H1.out.2.2.2.1
  have hbA := H1.out.2.2.2.2.1
  have hA3 : w3.heap[A]? = w1.heap[A]? := (H3.out.2.2.block A (by omega)).trans (H2.out.2.2.2.block A ⟨hAl, hsA⟩)
  have hr3 := H2.out.2.2.1.below H3.out.2.2
  have hw3 : Below w.heap.size w w3 := (H1.out.2.2.2.2.2.trans (H2.out.2.2.2.mono fun q hq => ⟨by omega, by omega⟩).to_below).trans (H3.out.2.2.mono (by omega))
  have hn := heap_alloc_new w3 (.cells (Value.pointer (some ⟨t, 0, none⟩) :: seats0).toArray 172)
  have hB4 : Below w3.heap.size w3 (w3.alloc (.cells (Value.pointer (some ⟨t, 0, none⟩) :: seats0).toArray 172)) := (Below.refl _ _).alloc (Nat.le_refl _) _
  obtain ⟨s, hs⟩ : ∃ s, s = w3.heap.size := ⟨_, rfl⟩
  obtain ⟨W4, hW4⟩ : ∃ W4, W4 = w3.alloc (.cells (Value.pointer (some ⟨t, 0, none⟩) :: seats0).toArray 172) := ⟨_, rfl⟩
  rw [← hs, ← hW4] at hn
  rw [← hs] at hB4 ⊢
  rw [← hW4] at hB4 ⊢
  have htl := (Array.getElem?_eq_some_iff.1 H3.out.1).1
  have hr4 := hr3.below (hs ▸ hB4)
  have hsz4 : W4.heap.size = w3.heap.size + 1 := by rw [hW4]; simp
  have hcA : W4.cell? ⟨A, 0 + 3, none⟩ = some (.int .u8 0) := (World.cell?_of_block (w := w1) ((hB4.block A (by omega)).trans hA3)).trans (by simpa using H1.out.2.1 3 _ rfl)
  have H4 := Lib.hid (show _ ∧ _ ∧ _ ∧ _ ∧ _ from ⟨hn, (hB4.block t (by omega)).trans H3.out.1, hw3.trans (hB4.mono (by omega)), hs, rNum_calls W4 b A (0 + 3) 1 0 hr4 (.inl rfl) (by decide) hsA (by omega) hcA⟩)
  clear hn hB4 hr3 hr4 hcA hW4 hA3 hw3 hs
  go_upto_region 13 with ((go_at_call 83; refine H4.out.2.2.2.2.mono ?_; rintro y w5 ⟨rfl, o5, h1, -, h2⟩; have H5 := Lib.hid (show _ ∧ _ from ⟨h1, h2⟩); clear h1 h2))
  have hsz5 := H5.out.2.size
  have hlb := H5.out.1.lt
  have hB6 : Below w5.heap.size w5 (w5.alloc (.map #[] 0)) := (Below.refl _ _).alloc (Nat.le_refl _) _
  have hk6 : Kp (fun q => q < W4.heap.size ∧ q ≠ b) W4 (w5.alloc (.map #[] 0)) := H5.out.2.trans (Kp.of_below hB6 fun q hq => by omega)
  have hbs : b < w3.heap.size := by have := H1.out.1.lt; omega
  have H6 := Lib.hid (show Shd (w5.alloc (.map #[] 0)) s t ∧ Below w.heap.size w (w5.alloc (.map #[] 0)) ∧ Rd (w5.alloc (.map #[] 0)) b (.slice (some ⟨A, o5, none⟩) 0 0) from ⟨⟨(hk6.block s ⟨by have := H4.out.2.2.2.1; omega, by have := H4.out.2.2.2.1; omega⟩).trans H4.out.1, (hk6.block t ⟨by omega, by have := H3.out.2.1; omega⟩).trans H4.out.2.1⟩, H4.out.2.2.1.trans (hk6.mono fun q hq => ⟨by have := H4.out.2.2.1.size; omega, by omega⟩).to_below, H5.out.1.below hB6⟩)
  clear hB6 hk6
  generalize w5.alloc (.map #[] 0) = W6 at H6 ⊢
  go_wp2
  go_loopw [35] (fun a wr => a = .int .u64 0 ∧ wr = W6) (fun _ _ => 0)
  case atStart => exact ⟨rfl, rfl⟩
  case round =>
    obtain ⟨rfl, rfl⟩ := hrel
    go_wp2_with ((go_at_call 86; refine (rdone_calls _ b _ H6.out.2.2).mono ?_; rintro y w7 ⟨rfl, hw⟩; obtain rfl := hw.symm))
    go_ret2
    exact ⟨_, t, rfl, H6.out.1, H6.out.2.1⟩
end Go.Proofs.YtokflmiijdpchaaGreat
namespace Go.Proofs.YtokflmiijdpchaaGreat
open Go.RowKit
set_option maxRecDepth 100000 in
set_option maxHeartbeats 4000000 in
theorem trows_calls (w : World) (t : Nat) (h : Tb w t) : Calls Tryz.prog 92 #[.pointer (some ⟨t, 0, none⟩)] w fun e w' => e = .returned (.slice none 0 0) ∧ Below w.heap.size w w' := by
  have HT := Lib.hid h
  have htl := (Array.getElem?_eq_some_iff.1 h).1
  clear h
  have hst : ∀ {W : World}, Below w.heap.size w W → Tb W t := fun hb => (hb.block t htl).trans HT.out
  have T1 := trivial
  have d2 : (w.alloc (.cells #[.slice none 0 0] 109)).cell? ⟨t, 0, none⟩ = some (.pointer none) := (cellD (hst ((Below.refl _ _).alloc (Nat.le_refl _) _)) 0).1
  refine (callsIn_wide (n := 9)).1 (callsIn_of_wp_marks Tryz.func92 rfl trivial (wpIn_wide.2 ?_) rfl)
  simp only [Tryz.ntmps92, List.size_toArray, List.length_cons, List.length_nil, Nat.reduceAdd, Nat.reduceSub, Array.replicate_succ, Array.replicate_zero, List.push_toArray, List.append_toArray, List.nil_append, List.cons_append]
  go_wp2_with (first
    | (go_at_call 152; refine (all_calls _).mono ?_; rintro e w' ⟨rfl, rfl⟩))
  obtain ⟨w5, hw5⟩ : ∃ w5, w5 = w.alloc (.cells #[.slice none 0 0] 109) := ⟨_, rfl⟩
  have hB5 : Below w.heap.size w w5 := hw5 ▸ (Below.refl _ _).alloc (Nat.le_refl _) _
  have hn5 : w5.heap[w.heap.size]? = some (.cells #[.slice none 0 0] 109 (0, 0)) := hw5 ▸ heap_alloc_new w _
  have hs5 : w5.heap.size = w.heap.size + 1 := by rw [hw5]; simp
  rw [← hw5, ← hs5]
  clear hw5
  refine wp_rangeFunc_wide (gf := 217) (lb := #[.pointer (some ⟨w5.heap.size, 0, none⟩)]) rfl (enters_of Tryz.func217 (by kernel_rfl) rfl) ?_
  intro fn
  generalize LRec fn _ _ _ _ _ = rec
  refine (all1_calls _ _ w5.heap.size ?_).mono ?_
  · have hA : (((w5.alloc (.cells #[.pointer none] 240)).alloc (.deferred (some []))).alloc (.loop rec)).heap[w5.heap.size]? = some (.cells #[.pointer none] 240 (0, 0)) := (heap_alloc_old _ _ (by simp; omega)).trans ((heap_alloc_old _ _ (by simp)).trans (heap_alloc_new w5 _))
    exact (cellD hA 0).1
  · rintro e W ⟨hv, m, rfl⟩
    obtain ⟨r1, -, -⟩ := after_range w5 (.cells #[.pointer none] 240) rec m (.loop rec)
    refine ⟨hv, r1, ?_⟩
    obtain ⟨Z, hZ⟩ : ∃ Z, Z = ((((w5.alloc (.cells #[.pointer none] 240)).alloc (.deferred (some []))).alloc (.loop rec)).drewN m).putObj ((w5.alloc (.cells #[.pointer none] 240)).heap.size + 1) (.loop { rec with state := .exhausted }) := ⟨_, rfl⟩
    have hZb : Below w5.heap.size w5 Z ∧ Z.heap[w5.heap.size + 1]? = some (.deferred (some [])) := by
      rw [hZ]
      have := (after_range w5 (.cells #[.pointer none] 240) rec m (.loop { rec with state := .exhausted })).2
      refine ⟨this.1, ?_⟩
      simpa using this.2
    rw [← hZ]
    clear hZ r1
    have zn : Z.cell? ⟨w.heap.size, 0, none⟩ = some (.slice none 0 0) := (cellD ((hZb.1.block w.heap.size (by omega)).trans hn5) 0).1
    have HZ := Lib.hid (show _ ∧ _ from ⟨hB5.trans (hZb.1.mono (by omega)), hZb.2⟩)
    clear hZb hB5 hn5
    go_wp2
    have hal : (w5.alloc (.cells #[.pointer none] 240)).heap.size = w5.heap.size + 1 := by simp
    refine ⟨by simp, .inl ⟨_, _, rfl, run_takeDeferred (by rw [hal]; exact HZ.out.2), ?_⟩⟩
    rw [hal]
    have hk6 : Kp (fun q => q ≠ w5.heap.size + 1) Z (Z.putObj (w5.heap.size + 1) (.deferred none)) := kp_putObj _ _ _ fun q hq => hq
    refine ⟨_, results_tmp rfl _ _ _, rfl, ?_⟩
    exact HZ.out.1.trans ((hk6.mono fun q (hq : q < w.heap.size) => by omega).to_below)
theorem srows_calls (w : World) (s t : Nat) (h : Shd w s t) : Calls Tryz.prog 47 #[.pointer (some ⟨s, 0, none⟩)] w fun e w' => e = .returned (.slice none 0 0) ∧ Below w.heap.size w w' := by
  have HT := Lib.hid (trows_calls w t h.2)
  have c0 : w.cell? ⟨s, 0, none⟩ = some (.pointer (some ⟨t, 0, none⟩)) := by simpa using (cellD h.1 0).1
  clear h
  go_enter Tryz.func47, Tryz.ntmps47
  go_wp2_with ((go_at_call 92; refine HT.out.mono ?_; rintro y w1 ⟨rfl, h1⟩; have H1 := Lib.hid h1; clear h1))
  go_ret
  exact ⟨rfl, H1.out⟩
end Go.Proofs.YtokflmiijdpchaaGreat
