/- The audit's holding and Holdings. -/
import Derived.Test.YtokflmiijdpchaaGreatD45
namespace Go.Proofs.YtokflmiijdpchaaGreat
open Go.RowKit
attribute [local go_sem] Oper.semAt_some
theorem hcells {W : World} {b : Nat} {v0 v1 v2 v3 v4 : Value} {t : TypeId} (h : W.heap[b]? = some (.cells #[v0, v1, v2, v3, v4] t (0, 0))) :
    W.cell? ⟨b, 0, none⟩ = some v0 ∧ W.cell? ⟨b, 1, none⟩ = some v1 ∧ W.cell? ⟨b, 2, none⟩ = some v2 ∧ W.cell? ⟨b, 3, none⟩ = some v3 ∧ W.cell? ⟨b, 4, none⟩ = some v4 ∧ W.frozen? ⟨b, 0, none⟩ = false ∧ W.frozen? ⟨b, 1, none⟩ = false ∧ W.frozen? ⟨b, 2, none⟩ = false ∧ W.frozen? ⟨b, 3, none⟩ = false ∧ W.frozen? ⟨b, 4, none⟩ = false :=
  ⟨(cellD h 0).1, (cellD h 1).1, (cellD h 2).1, (cellD h 3).1, (cellD h 4).1, (cellD h 0).2, (cellD h 1).2, (cellD h 2).2, (cellD h 3).2, (cellD h 4).2⟩
/-- What a copy is asked for: the form of an empty shard, or nothing. -/
def Cp (w0 w : World) (v : Value) (k : Int) : Prop := (k = 0 ∧ ∃ g, v = .slice (some ⟨g, 0, none⟩) 4 4 ∧ w.rangeAt g 0 [.int .u8 2, b0, b0, b0] ∧ w0.heap.size ≤ g ∧ g < w.heap.size) ∨ (k = 290 ∧ v = .slice none 0 0)
theorem Cp.form {w0 w : World} {v : Value} {k : Int} (h : Cp w0 w v k) : ∃ p c, v = .slice p c c := by
  rcases h with ⟨-, g, rfl, -⟩ | ⟨-, rfl⟩
  · exact ⟨_, _, rfl⟩
  · exact ⟨_, _, rfl⟩
theorem Cp.move {w0 w0' w w' : World} {v : Value} {k : Int} (h : Cp w0 w v k) (h0 : w0'.heap.size ≤ w0.heap.size) (hk : Kp (fun q => w0.heap.size ≤ q) w w') : Cp w0' w' v k := by
  rcases h with ⟨h1, g, h2, h3, h4, h5⟩ | h
  · exact .inl ⟨h1, g, h2, fun j u hu => (World.cell?_of_block (w := w) (hk.block g h4)).trans (h3 j u hu), by omega, Nat.lt_of_lt_of_le h5 hk.size⟩
  · exact .inr h
theorem kp_set {U : Nat → Prop} {w w' : World} (h : Kp U w w') (p : Addr) (v : Value) (hp : ¬ U p.block) : Kp U w (w'.setCell p v) := h.trans ⟨rfl, rfl, rfl, by simp, fun q hq => set_other _ p _ _ fun e => hp (e ▸ hq)⟩
theorem acopy_calls (w : World) (a n m : Nat) (H : Nat → Nat) (h : Aud w a n m H) (sv x : Nat) (hs : sv < n) (hx : x < m) (hm : m ≤ 64) : Calls Tryz.prog 10 #[.pointer (some ⟨a, 0, none⟩), .int .i64 sv, .int .i64 x] w fun r w' => ∃ v, r = .returned (.tuple #[v, .int .i64 (if sv = H x then 0 else 290)]) ∧ Cp w w' v (if sv = H x then 0 else 290) ∧ Below w.heap.size w w' := by
  by_cases hh : sv = H x
  · rw [if_pos hh]
    exact (acopy_own w a n m H h sv x hs hx hm hh).mono fun r w' ⟨g, h1, h2, h3, h4, h5⟩ => ⟨_, h1, .inl ⟨rfl, g, rfl, h2, h3, h4⟩, h5⟩
  · rw [if_neg hh]
    exact (acopy_none w a n m H h sv x hs hx hm hh).mono fun r w' ⟨h1, h2⟩ => ⟨_, h1, .inr ⟨rfl, rfl⟩, h2⟩
set_option maxRecDepth 100000 in
set_option maxHeartbeats 2000000 in
theorem aholding_calls (w : World) (a n m : Nat) (H : Nat → Nat) (h : Aud w a n m H) (sv x : Nat) (hs : sv < n) (hx : x < m) (hm : m ≤ 64) (ph k : Int) (hph : ph = (if sv = H x then 1 else 0)) (hk : k = (if sv = H x then 0 else 290)) : Calls Tryz.prog 29 #[.pointer (some ⟨a, 0, none⟩), .int .i64 sv, .int .i64 x] w fun r w' => ∃ v, r = .returned (.tuple #[.agg #[.int .i64 sv, .int .i64 ph, .int .i64 0, .int .i64 (H x), v], .int .i64 k]) ∧ Cp w w' v k ∧ Below w.heap.size w w' := by
  obtain ⟨W0, hW0⟩ : ∃ W0, W0 = w.alloc (.cells #[.int .i64 0, .int .i64 0, .int .i64 0, .int .i64 0, .slice none 0 0] 53) := ⟨_, rfl⟩
  have hb0 : Below w.heap.size w W0 := hW0 ▸ (Below.refl _ _).alloc (Nat.le_refl _) _
  have hn0 : W0.heap[w.heap.size]? = some (.cells #[.int .i64 0, .int .i64 0, .int .i64 0, .int .i64 0, .slice none 0 0] 53 (0, 0)) := hW0 ▸ heap_alloc_new w _
  have hsz : w.heap.size < W0.heap.size := by rw [hW0]; simp
  have hAC := fun W (hW : Aud W a n m H) => acopy_calls W a n m H hW sv x hs hx hm
  have hAL := aledger_calls W0 a n m H (h.below hb0) sv x hs hx hm
  have hL : led sv (H x) = .agg #[.int .i64 ph, .int .i64 0, .int .i64 (H x)] := by rw [hph]; rfl
  rw [hL] at hAL
  rw [← hk] at hAC
  have HA := Lib.hid (show _ ∧ _ ∧ _ ∧ _ ∧ _ from ⟨h.below hb0, hb0, hn0, hAL, hAC⟩)
  clear h hb0 hn0 hAL hAC hph hk hL
  go_enter Tryz.func29, Tryz.ntmps29
  go_upto_region 1 with (fail)
  rw [← hW0]
  clear hW0
  go_upto_region 2 with ((go_at_call 9; refine HA.out.2.2.2.1.mono ?_; rintro y w1 ⟨rfl, hb1⟩; have H1 := Lib.hid hb1; clear hb1))
  have n2 := heap_alloc_new w1 (.cells #[.int .i64 ph, .int .i64 0, .int .i64 (H x)] 41)
  have hB2 : Below W0.heap.size W0 (w1.alloc (.cells #[.int .i64 ph, .int .i64 0, .int .i64 (H x)] 41)) := H1.out.alloc H1.out.size _
  have hs1 := H1.out.size
  have H2 := Lib.hid (show _ ∧ _ ∧ _ from ⟨n2, hB2, HA.out.2.2.2.2 _ (HA.out.1.below hB2)⟩)
  clear n2 hB2
  have hs2 : (w1.alloc (.cells #[.int .i64 ph, .int .i64 0, .int .i64 (H x)] 41)).heap.size = w1.heap.size + 1 := by simp
  generalize w1.alloc (.cells #[.int .i64 ph, .int .i64 0, .int .i64 (H x)] 41) = W2 at H2 hs2 ⊢
  go_wp2_with (first
    | (go_at_call 10; refine H2.out.2.2.mono ?_; rintro y w3 ⟨v, rfl, hc3, hb3⟩; obtain ⟨pv, cv, rfl⟩ := hc3.form; have n3 := (hb3.block _ (by omega)).trans H2.out.1; have i0 : w3.cell? ⟨w1.heap.size, 0, none⟩ = some (.int .i64 ph) := (cellD n3 0).1; have i1 : w3.cell? ⟨w1.heap.size, 1, none⟩ = some (.int .i64 0) := (cellD n3 1).1; have i2 : w3.cell? ⟨w1.heap.size, 2, none⟩ = some (.int .i64 (H x)) := (cellD n3 2).1; have n4 := (H2.out.2.1.trans (hb3.mono (by omega))).block w.heap.size hsz |>.trans HA.out.2.2.1; obtain ⟨k0, k1, k2, k3, k4, f0, f1, f2, f3, f4⟩ := hcells n4; have H3 := Lib.hid (show _ ∧ _ ∧ _ from ⟨hc3, hb3, n4⟩); clear hc3 hb3 n3 n4))
  have hn := block_set (block_set (block_set (block_set (block_set H3.out.2.2 0 (.int .i64 sv)) 1 (.int .i64 ph)) 2 (.int .i64 0)) 3 (.int .i64 (H x))) 4 (.slice pv cv cv)
  simp at hn
  obtain ⟨m0, m1, m2, m3, m4, -⟩ := hcells hn
  refine bodyPost_ret (v := .tuple #[.agg #[.int .i64 sv, .int .i64 ph, .int .i64 0, .int .i64 (H x), .slice pv cv cv], .int .i64 k]) (by simp [results, Tryz.results29, go_sem, m0, m1, m2, m3, m4]) rfl ?_
  refine ⟨_, rfl, H3.out.1.move (by omega) ?_, ?_⟩
  · exact kp_set (kp_set (kp_set (kp_set (kp_set (Kp.refl _ _) ⟨w.heap.size, 0, none⟩ _ (by simp only; omega)) ⟨w.heap.size, 1, none⟩ _ (by simp only; omega)) ⟨w.heap.size, 2, none⟩ _ (by simp only; omega)) ⟨w.heap.size, 3, none⟩ _ (by simp only; omega)) ⟨w.heap.size, 4, none⟩ _ (by simp only; omega)
  · exact (((((HA.out.2.1.trans ((H2.out.2.1.mono (by omega)).trans (H3.out.2.1.mono (by omega)))).setCell (p := ⟨w.heap.size, 0, none⟩) (Nat.le_refl _) _).setCell (p := ⟨w.heap.size, 1, none⟩) (Nat.le_refl _) _).setCell (p := ⟨w.heap.size, 2, none⟩) (Nat.le_refl _) _).setCell (p := ⟨w.heap.size, 3, none⟩) (Nat.le_refl _) _).setCell (p := ⟨w.heap.size, 4, none⟩) (Nat.le_refl _) _
/-- The one holding's cells. -/
def hcs (h gl : Nat) : List Value := [.int .i64 h, .int .i64 1, .int .i64 0, .int .i64 h, .slice (some ⟨gl, 0, none⟩) 4 4]
def One (w0 w : World) (v : Value) (h : Nat) : Prop := ∃ gl, Oe 53 5 w v 1 (hcs h gl) (· < w0.heap.size) ∧ w.rangeAt gl 0 [.int .u8 2, b0, b0, b0] ∧ gl < w.heap.size ∧ w0.heap.size ≤ gl
theorem One.below {w0 w w' : World} {v : Value} {h : Nat} (ho : One w0 w v h) (hb : Below w.heap.size w w') : One w0 w' v h :=
  let ⟨gl, h1, h2, h3, h4⟩ := ho
  ⟨gl, h1.below hb, range_below h2 hb h3, Nat.lt_of_lt_of_le h3 hb.size, h4⟩
set_option maxRecDepth 100000 in
set_option maxHeartbeats 2000000 in
theorem eachh_calls (w : World) (a n m : Nat) (H : Nat → Nat) (h : Aud w a n m H) (x : Nat) (hx : x < m) (hm : m ≤ 64) (hH : H x < n) (hn : n ≤ 8) : Calls Tryz.prog 28 #[.pointer (some ⟨a, 0, none⟩), .int .i64 x, .func (.func 29) #[.pointer (some ⟨a, 0, none⟩)] #[]] w fun r w' => ∃ v, r = .returned v ∧ One w w' v (H x) ∧ Below w.heap.size w w' := by
  obtain ⟨c0, -⟩ := h.two
  have HA := Lib.hid h
  clear h
  go_enter Tryz.func28, Tryz.ntmps28
  go_wp2_with (first
    | (go_at_call 21; refine (ashard_true w a n m H HA.out x hx).mono ?_; rintro y w' ⟨rfl, hw⟩; obtain rfl := hw.symm))
  go_loopw [7, 20] (fun v i wr => ∃ j : Nat, j ≤ n ∧ i = .int .i64 j ∧ ((j ≤ H x ∧ v = .slice none 0 0) ∨ (H x < j ∧ One w wr v (H x))) ∧ Below w.heap.size w wr) (fun _ i _ => n - (intOf i).toNat)
  case atStart => exact ⟨0, by omega, rfl, .inl ⟨by omega, rfl⟩, Below.refl _ _⟩
  case round =>
    obtain ⟨j, hj, rfl, ho, hb⟩ := hrel
    by_cases hjn : j < n
    · have hsz := hb.size
      by_cases hjh : j = H x
      · have HLD := aholding_calls wr a n m H (HA.out.below hb) j x hjn hx hm 1 0 (by rw [if_pos hjh]) (by rw [if_pos hjh])
        obtain ⟨-, rfl⟩ | ho := ho
        case inr => omega
        have HR := Lib.hid (show _ ∧ _ ∧ _ from ⟨hb, HLD, hjh⟩)
        clear hb HLD hjh
        go_wp2_with (first
          | (go_at_call 29; refine HR.out.2.1.mono ?_; rintro y w1 ⟨v1, rfl, hc1, hb1⟩; obtain ⟨gl, rfl, hr1, hg1, hg2⟩ : ∃ gl, v1 = .slice (some ⟨gl, 0, none⟩) 4 4 ∧ w1.rangeAt gl 0 [.int .u8 2, b0, b0, b0] ∧ wr.heap.size ≤ gl ∧ gl < w1.heap.size := hc1.elim (fun q => q.2) (fun q => absurd q.1 (by decide)); have H1 := Lib.hid (show _ ∧ _ ∧ _ ∧ _ from ⟨hb1, hr1, hg1, hg2⟩); clear hb1 hr1 hg1 hg2 hc1)
          | (refine wp_appE1 rfl 50 53 5 56 Tryz.underlying50 ⟨_, _, rfl, rfl, rfl, rfl, rfl⟩ (by decide) (by decide) (.tmp 32) (.tmp 34) rfl _ 0 _ (fun q => q < w1.heap.size + 1) rfl (Oe.nil fun q hq => by simpa using hq) _ [.int .i64 j, .int .i64 1, .int .i64 0, .int .i64 (H x), .slice (some ⟨gl, 0, none⟩) 4 4] rfl (by simp) rfl (by simp [Value.oneCell']) (by omega) ?_; intro v2 w2 ho2 hk2; have H2 := Lib.hid (show _ ∧ _ from ⟨ho2, hk2⟩); clear ho2 hk2))
        have hs1 := H1.out.1.size
        have hb2 : Below w1.heap.size w1 w2 := ((Below.refl _ _).alloc (Nat.le_refl _) _).trans (H2.out.2.mono fun q hq => by omega).to_below
        refine ⟨⟨j + 1, by omega, by go_num, .inr ⟨by have := HR.out.2.2; omega, gl, ?_, range_below H1.out.2.1 hb2 H1.out.2.2.2, Nat.lt_of_lt_of_le H1.out.2.2.2 hb2.size, by have := H1.out.2.2.1; omega⟩, HR.out.1.trans ((H1.out.1.mono hsz).trans (hb2.mono (by omega)))⟩, by simp [intOf]; omega⟩
        have hjh := HR.out.2.2
        rw [hcs, ← hjh]
        have ho2 := H2.out.1
        rw [← hjh] at ho2
        exact ⟨ho2.1, fun q hq => ho2.2 q (by omega)⟩
      · have HLD := aholding_calls wr a n m H (HA.out.below hb) j x hjn hx hm 0 290 (by rw [if_neg hjh]) (by rw [if_neg hjh])
        have HR := Lib.hid (show _ ∧ _ ∧ _ ∧ _ from ⟨hb, HLD, hjh, ho⟩)
        clear hb HLD hjh ho
        go_wp2_with (first
          | (go_at_call 29; refine HR.out.2.1.mono ?_; rintro y w1 ⟨v1, rfl, hc1, hb1⟩; obtain rfl : v1 = .slice none 0 0 := hc1.elim (fun q => absurd q.1 (by decide)) (fun q => q.2); have H1 := Lib.hid hb1; clear hb1 hc1))
        have hs1 := H1.out.size
        have hb2 : ∀ o : Obj, Below wr.heap.size wr (w1.alloc o) := fun o => H1.out.alloc hs1 o
        refine ⟨⟨j + 1, by omega, by go_num, ?_, HR.out.1.trans ((hb2 _).mono hsz)⟩, by simp [intOf]; omega⟩
        have hjh := HR.out.2.2.1
        rcases HR.out.2.2.2 with ⟨h1, h2⟩ | ⟨h1, h2⟩
        · exact .inl ⟨by omega, h2⟩
        · exact .inr ⟨by omega, h2.below (hb2 _)⟩
    · obtain rfl : j = n := by omega
      obtain ⟨h1, rfl⟩ | ⟨-, ho⟩ := ho
      · omega
      have HR := Lib.hid (show _ ∧ _ from ⟨hb, ho⟩)
      clear hb ho
      go_wp2
      go_ret
      exact ⟨_, rfl, HR.out.2, HR.out.1⟩
theorem one_of {w0 w : World} {v : Value} {h : Nat} (ho : One w0 w v h) : ∃ g cap gl, v = .slice (some ⟨g, 0, none⟩) 1 cap ∧ w.rangeAt g 0 (hcs h gl) ∧ g < w.heap.size ∧ w.rangeAt gl 0 [.int .u8 2, b0, b0, b0] ∧ gl < w.heap.size := by
  obtain ⟨gl, h1, h2, h3, -⟩ := ho
  have h0 := h1.1
  obtain ⟨hl, hh | ⟨g, cap, cur, rfl, -, hg, hc, -, -, -⟩⟩ := h1.1
  · exact absurd hh.2 (by decide)
  · refine ⟨g, cap, gl, rfl, fun j u hu => ?_, (Array.getElem?_eq_some_iff.1 hg).1, h2, h3⟩
    rw [Nat.zero_add, h0.cellAt j (List.getElem?_eq_some_iff.1 hu).1]
    exact hu
theorem aholdings_calls (w : World) (a n m : Nat) (H : Nat → Nat) (h : Aud w a n m H) (x : Nat) (hx : x < m) (hm : m ≤ 64) (hH : H x < n) (hn : n ≤ 8) : Calls Tryz.prog 14 #[.pointer (some ⟨a, 0, none⟩), .int .i64 x] w fun r w' => ∃ g cap gl, r = .returned (.slice (some ⟨g, 0, none⟩) 1 cap) ∧ w'.rangeAt g 0 (hcs (H x) gl) ∧ g < w'.heap.size ∧ w'.rangeAt gl 0 [.int .u8 2, b0, b0, b0] ∧ gl < w'.heap.size ∧ Below w.heap.size w w' := by
  have HA := Lib.hid h
  clear h
  go_enter Tryz.func14, Tryz.ntmps14
  go_wp2_with (first
    | (go_at_call 28; refine (eachh_calls w a n m H HA.out x hx hm hH hn).mono ?_; rintro y w1 ⟨v, rfl, h1, h2⟩; obtain ⟨g, cap, gl, rfl, h3⟩ := one_of h1; have H1 := Lib.hid (show _ ∧ _ from ⟨h2, h3⟩); clear h1 h2 h3))
  go_ret
  exact ⟨g, cap, gl, rfl, H1.out.2.1, H1.out.2.2.1, H1.out.2.2.2.1, H1.out.2.2.2.2, H1.out.1⟩
theorem aholdings_nil (w : World) (x : Int) : Calls Tryz.prog 14 #[.pointer none, .int .i64 x] w fun r w' => r = .returned (.slice none 0 0) ∧ w' = w := by
  have he : Calls Tryz.prog 28 #[.pointer none, .int .i64 x, .func (.func 29) #[.pointer none] #[]] w fun r w' => r = .returned (.slice none 0 0) ∧ w' = w := by
    go_enter Tryz.func28, Tryz.ntmps28
    go_wp2_with (first
      | (go_at_call 21; refine (ashard_nil w x).mono ?_; rintro y w' ⟨rfl, hw⟩; obtain rfl := hw.symm))
    go_ret
    exact ⟨rfl, rfl⟩
  have HE := Lib.hid he
  clear he
  go_enter Tryz.func14, Tryz.ntmps14
  go_wp2_with (first
    | (go_at_call 28; refine HE.out.mono ?_; rintro y w1 ⟨rfl, hw⟩; obtain rfl := hw.symm))
  go_ret
  exact ⟨rfl, rfl⟩
end Go.Proofs.YtokflmiijdpchaaGreat
