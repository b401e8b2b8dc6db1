/- A new state. -/
import Derived.Test.YtokflmiijdpchaaGreatD31
namespace Go.Proofs.YtokflmiijdpchaaGreat
open Go.RowKit
abbrev HRow := Int × Int × Option (Nat × Nat)
/-- The cells of what is held of a shard. -/
def rc (r : HRow) : List Value := [.int .i64 r.1, .int .i64 0, .int .i64 r.2.1, .pointer (r.2.2.map fun p => ⟨p.1, 0, none⟩)]
/-- A server's state; the row of what is held lies at v. -/
structure StV (w : World) (st : Nat) (sv n : Int) (v : Value) (rs : List HRow) (U : Nat → Prop) : Prop where
  blk : w.heap[st]? = some (.cells #[.int .i64 sv, .int .i64 n, v] 151 (0, 0))
  row : w.ownsRow 0 155 4 v rs.length (rs.flatMap rc)
  own : v.ownBlock ≠ some st ∧ ∀ b, v.ownBlock = some b → ¬ U b
  shd : ∀ r ∈ rs, ∀ s t, r.2.2 = some (s, t) → Shd w s t ∧ (v.ownBlock ≠ some s ∧ v.ownBlock ≠ some t) ∧ s ≠ st ∧ t ≠ st ∧ ¬ U s ∧ ¬ U t
def St (w : World) (st : Nat) (sv n : Int) (rs : List HRow) (U : Nat → Prop) : Prop := ∃ v, StV w st sv n v rs U
theorem StV.below {w w' : World} {st : Nat} {sv n : Int} {v : Value} {rs : List HRow} {U : Nat → Prop} (h : StV w st sv n v rs U) (hb : Below w.heap.size w w') : StV w' st sv n v rs U :=
  ⟨(hb.block st (Array.getElem?_eq_some_iff.1 h.blk).1).trans h.blk, h.row.kept (row := none) ⟨hb.os, hb.tape, hb.output, hb.size, fun k hk _ => hb.block k hk⟩ (Classical.em _), h.own, fun r hr s t e => ⟨(h.shd r hr s t e).1.below hb, (h.shd r hr s t e).2⟩⟩
theorem StV.app {w w2 : World} {st : Nat} {sv n : Int} {v : Value} {rs : List HRow} {U : Nat → Prop} (h : StV w st sv n v rs U) (hU : ∀ b, U b → b < w.heap.size) (r : HRow) (hr : ∀ s t, r.2.2 = some (s, t) → Shd w s t ∧ (v.ownBlock ≠ some s ∧ v.ownBlock ≠ some t) ∧ s ≠ st ∧ t ≠ st ∧ ¬ U s ∧ ¬ U t) (o : Obj) {g cap : Nat}
    (q1 : w2.ownsRow 0 155 4 (.slice (some ⟨g, 0, none⟩) (rs.length + 1) cap) (rs.length + 1) (rs.flatMap rc ++ rc r)) (q2 : (w.drew.alloc o).grownBy w2 v.ownBlock) (q3 : v.ownBlock = some g ∨ g = (w.drew.alloc o).heap.size) :
    StV (w2.setCell ⟨st, 2, none⟩ (.slice (some ⟨g, 0, none⟩) (rs.length + 1) cap)) st sv n (.slice (some ⟨g, 0, none⟩) (rs.length + 1) cap) (rs ++ [r]) U := by
  have hst := (Array.getElem?_eq_some_iff.1 h.blk).1
  have hsz : (w.drew.alloc o).heap.size = w.heap.size + 1 := by simp
  have hold : ∀ b, b < w.heap.size → v.ownBlock ≠ some b → w2.heap[b]? = w.heap[b]? := fun b hb hn => (q2.block b (by omega) (fun e => hn e.symm)).trans (heap_alloc_old w.drew o hb)
  have hg : ∀ b, b < w.heap.size → v.ownBlock ≠ some b → g ≠ b := fun b hb hn e => by
    rcases q3 with q3 | q3
    · exact hn (e ▸ q3)
    · omega
  have hall : ∀ r' ∈ rs ++ [r], ∀ s t, r'.2.2 = some (s, t) → Shd w s t ∧ (v.ownBlock ≠ some s ∧ v.ownBlock ≠ some t) ∧ s ≠ st ∧ t ≠ st ∧ ¬ U s ∧ ¬ U t := fun r' hr' s t e => by
    rcases List.mem_append.1 hr' with hr' | hr'
    · exact h.shd r' hr' s t e
    · rw [List.mem_singleton.1 hr'] at e
      exact hr s t e
  have hgs := hg st hst h.own.1
  refine ⟨block_set ((hold st hst h.own.1).trans h.blk) 2 _, ?_, ⟨fun e => hgs (Option.some.inj e), fun b e hu => ?_⟩, fun r' hr' s t e => ?_⟩
  · rw [List.length_append, List.flatMap_append]
    have := q1.kept (set_grown w2 ⟨st, 2, none⟩ (.slice (some ⟨g, 0, none⟩) (rs.length + 1) cap)) (.inr fun e => hgs (Option.some.inj e))
    simpa using this
  · have e' : g = b := Option.some.inj e
    subst e'
    rcases q3 with q3 | q3
    · exact h.own.2 g q3 hu
    · have := hU g hu
      omega
  · obtain ⟨h1, h2, h3, h4, h5, h6⟩ := hall r' hr' s t e
    exact ⟨⟨(set_other _ _ _ s h3).trans ((hold s h1.lt.1 h2.1).trans h1.1), (set_other _ _ _ t h4).trans ((hold t h1.lt.2 h2.2).trans h1.2)⟩, ⟨fun e => hg s h1.lt.1 h2.1 (Option.some.inj e), fun e => hg t h1.lt.2 h2.2 (Option.some.inj e)⟩, h3, h4, h5, h6⟩
theorem own_kp {w w' : World} {base size n : Nat} {t : TypeId} {v : Value} {xs : List Value} {V : Nat → Prop} (h : w.ownsRow base t size v n xs) (hk : Kp V w w') (hv : ∀ b, v.ownBlock = some b → V b) : w'.ownsRow base t size v n xs := by
  refine ⟨h.1, ?_⟩
  rcases h.2 with hn | ⟨g, cap, cur, rfl, hb, hgg, rest⟩
  · exact .inl hn
  · exact .inr ⟨g, cap, cur, rfl, hb, (hk.block g (hv g rfl)).trans hgg, rest⟩
/-- The blocks of a state that stay. -/
theorem StV.kp {w w' : World} {st : Nat} {sv n : Int} {v : Value} {rs : List HRow} {U V : Nat → Prop} (h : StV w st sv n v rs U) (hk : Kp V w w') (h0 : V st) (hv : ∀ q, q < w.heap.size → ¬ U q → V q) : StV w' st sv n v rs U :=
  ⟨(hk.block st h0).trans h.blk, own_kp h.row hk (fun b e => hv b (h.row.lt _ e).2 (h.own.2 b e)), h.own, fun r hr s t e => let ⟨h1, h2, h3, h4, h5, h6⟩ := h.shd r hr s t e; ⟨⟨(hk.block s (hv s h1.lt.1 h5)).trans h1.1, (hk.block t (hv t h1.lt.2 h6)).trans h1.2⟩, h2, h3, h4, h5, h6⟩⟩
def okRow (sv hm : Int) (r : HRow) : Prop := (hm = sv ∧ ∃ p, r = (1, sv, some p)) ∨ (hm ≠ sv ∧ r = (0, hm, none))
theorem right_calls (w : World) (a b c : Int) (h : 1 ≤ b ∧ b ≤ 8 ∧ 0 ≤ a ∧ a < b ∧ 1 ≤ c ∧ c ≤ 64) : Calls Tryz.prog 72 #[.int .i64 a, .int .i64 b, .int .i64 c] w fun e w' => e = .returned (.bool true) ∧ w' = w := by
  obtain ⟨h1, h2, h3, h4, h5, h6⟩ := h
  go_enter Tryz.func72, Tryz.ntmps72
  go_wp2
  go_ret
  exact ⟨rfl, rfl⟩
theorem begin_same (w : World) (a : Int) : Calls Tryz.prog 73 #[.int .i64 a, .int .i64 a] w fun e w' => e = .returned (.agg #[.int .i64 1, .int .i64 0, .int .i64 a]) ∧ Below w.heap.size w w' := by
  go_enter Tryz.func73, Tryz.ntmps73
  go_wp2
  refine bodyPost_ret (results_cell_mid Tryz.results73 _ _ w.heap.size 0 [.int .i64 1, .int .i64 0, .int .i64 a] _ rfl (by simpa using range_whole (heap_alloc_new w (.cells #[.int .i64 1, .int .i64 0, .int .i64 a] 41))) Tryz.underlying41 rfl (by kernel_rfl)) rfl ?_
  exact ⟨rfl, (Below.refl _ _).alloc (Nat.le_refl _) _⟩
theorem begin_other (w : World) (a b : Int) (h : ¬ a = b) : Calls Tryz.prog 73 #[.int .i64 a, .int .i64 b] w fun e w' => e = .returned (.agg #[.int .i64 0, .int .i64 0, .int .i64 b]) ∧ Below w.heap.size w w' := by
  go_enter Tryz.func73, Tryz.ntmps73
  go_wp2
  refine bodyPost_ret (results_cell_mid Tryz.results73 _ _ w.heap.size 0 [.int .i64 0, .int .i64 0, .int .i64 b] _ rfl (by simpa using range_whole (heap_alloc_new w (.cells #[.int .i64 0, .int .i64 0, .int .i64 b] 41))) Tryz.underlying41 rfl (by kernel_rfl)) rfl ?_
  exact ⟨rfl, (Below.refl _ _).alloc (Nat.le_refl _) _⟩
set_option maxRecDepth 100000 in
set_option maxHeartbeats 4000000 in
theorem stnew_calls (w : World) (sv n m : Nat) (hn : n ≤ 8) (hsv : sv < n) (h0 : 1 ≤ m) (hm : m ≤ 64) (H : Nat → Nat) (hH : ∀ i, i < m → ∀ W : World, Calls Tryz.prog 74 #[.int .i64 i, .int .i64 n] W fun e w' => e = .returned (.int .i64 (H i)) ∧ Below W.heap.size W w') :
    Calls Tryz.prog 39 #[.int .i64 sv, .int .i64 n, .int .i64 m] w fun e w' => ∃ st rs, e = .returned (.tuple #[.pointer (some ⟨st, 0, none⟩), .int .i64 0]) ∧ St w' st sv n rs (· < w.heap.size) ∧ rs.length = m ∧ (∀ i r, rs[i]? = some r → okRow sv (H i) r) ∧ Below w.heap.size w w' ∧ w.heap.size ≤ st := by
  have HH := Lib.hid hH
  clear hH
  go_enter Tryz.func39, Tryz.ntmps39
  go_wp2_with (first
    | (go_at_call 72; refine (right_calls _ _ _ _ ⟨by omega, by omega, by omega, by omega, by omega, by omega⟩).mono ?_; rintro e w' ⟨rfl, hw⟩; obtain rfl := hw.symm))
  obtain ⟨st, hst⟩ : ∃ st, st = w.heap.size := ⟨_, rfl⟩
  obtain ⟨W0, hW0⟩ : ∃ W0, W0 = w.alloc (.cells #[.int .i64 sv, .int .i64 n, .slice none 0 0] 151) := ⟨_, rfl⟩
  have hs0 : StV W0 st sv n (.slice none 0 0) [] (· < w.heap.size) := by
    rw [hW0, hst]
    exact ⟨heap_alloc_new w _, World.ownsRow_nil _ _ _ _, ⟨by simp [Value.ownBlock], fun b e => by simp [Value.ownBlock] at e⟩, fun r hr => by simp at hr⟩
  have hb0 : Below w.heap.size w W0 := hW0 ▸ (Below.refl _ _).alloc (Nat.le_refl _) _
  rw [← hW0, ← hst]
  have H0 := Lib.hid (show _ ∧ _ from ⟨hs0, hb0⟩)
  have hst' : w.heap.size ≤ st := by omega
  clear hW0 hst hs0 hb0
  go_loopw [21] (fun i wr => ∃ (j : Nat) (v : Value) (rs : List HRow), j ≤ m ∧ i = .int .i64 j ∧ StV wr st sv n v rs (· < w.heap.size) ∧ rs.length = j ∧ (∀ i r, rs[i]? = some r → okRow sv (H i) r) ∧ Below w.heap.size w wr) (fun i _ => m - (intOf i).toNat)
  case atStart => exact ⟨0, _, [], by omega, rfl, H0.out.1, rfl, by simp, H0.out.2⟩
  case round =>
    obtain ⟨j, v, rs, hj, rfl, hs, rfl, hok, hb⟩ := hrel
    have HR := Lib.hid (show _ ∧ _ ∧ _ from ⟨hs, hok, hb⟩)
    clear hs hok hb
    have hstwr : st < wr.heap.size := (Array.getElem?_eq_some_iff.1 HR.out.1.blk).1
    by_cases hjm : rs.length < m
    · by_cases hh : H rs.length = sv
      · go_upto_region 10 with (first
          | (go_at_call 74; refine (HH.out rs.length hjm _).mono ?_; rintro e w1 ⟨rfl, hb1⟩; rw [hh]; have H1 := Lib.hid hb1; clear hb1)
          | (go_at_call 73; refine (begin_same _ _).mono ?_; rintro e w2 ⟨rfl, hb2⟩; have H2 := Lib.hid (show Below wr.heap.size wr w2 from H1.out.trans (hb2.mono H1.out.size)); clear hb2)
          | (go_at_call 75; refine (shnew_calls _).mono ?_; rintro e w4 ⟨s, t, rfl, hsh, hb4, hs4, ht4⟩; have hh4 := (hb4.block w2.heap.size (by simp)).trans (heap_alloc_new w2 (.cells #[.int .i64 1, .int .i64 0, .int .i64 sv, .pointer none] 155)); have m3 := (cellD hh4 3).1; have m3f := (cellD hh4 3).2; have H4 := Lib.hid (show Shd w4 s t ∧ Below wr.heap.size wr w4 ∧ w4.heap[w2.heap.size]? = _ from ⟨hsh, H2.out.trans ((((Below.refl w2.heap.size w2).alloc (Nat.le_refl _) _).trans (hb4.mono (by simp))).mono H2.out.size), hh4⟩); clear hsh hb4 hh4))
        obtain ⟨W, hW⟩ : ∃ W, W = w4.setCell ⟨w2.heap.size, 3, none⟩ (.pointer (some ⟨s, 0, none⟩)) := ⟨_, rfl⟩
        have hs2 := H2.out.size
        simp only [World.size_alloc] at hs4 ht4
        have hB : Below wr.heap.size wr W := hW ▸ H4.out.2.1.setCell (p := ⟨w2.heap.size, 3, none⟩) hs2 _
        have hc : W.heap[w2.heap.size]? = some (.cells #[.int .i64 1, .int .i64 0, .int .i64 sv, .pointer (some ⟨s, 0, none⟩)] 155 (0, 0)) := by
          rw [hW]
          exact block_set H4.out.2.2 3 _
        have hsd : Shd W s t := by
          rw [hW]
          exact ⟨(set_other _ _ _ s (by simp only; omega)).trans H4.out.1.1, (set_other _ _ _ t (by simp only; omega)).trans H4.out.1.2⟩
        rw [← hW]
        clear hW m3 m3f
        have hS := HR.out.1.below hB
        have k0 := (cellD hc 0).1
        have k1 := (cellD hc 1).1
        have k2 := (cellD hc 2).1
        have k3 := (cellD hc 3).1
        have k4 := (cellD hS.blk 2).1
        have hvn := hS.own.1
        have HS := Lib.hid (show _ ∧ _ from ⟨hS, hB⟩)
        have hstl : st < W.heap.size := (Array.getElem?_eq_some_iff.1 hS.blk).1
        clear hS hc hB
        have HD := Lib.hid hsd
        clear hsd
        obtain ⟨ie, z, hie, hze, hisz, hib, hzs⟩ : ∃ ie z, Tryz.prog.info? 155 = some ie ∧ ie.zero = some z ∧ ie.size = 4 ∧ ie.bytes = 32 ∧ z.cells.size = 4 := ⟨_, _, rfl, rfl, rfl, rfl, rfl⟩
        obtain ⟨e0, e1, e2, e3⟩ : (W.cell? ⟨w2.heap.size, 0, none⟩ = some (.int .i64 1) ∧ W.cell? ⟨w2.heap.size, 1, none⟩ = some (.int .i64 0) ∧ W.cell? ⟨w2.heap.size, 2, none⟩ = some (.int .i64 sv) ∧ W.cell? ⟨w2.heap.size, 3, none⟩ = some (.pointer (some ⟨s, 0, none⟩))) := ⟨k0, k1, k2, k3⟩
        clear k0 k1 k2 k3
        have kk : ∀ o : Obj, (W.drew.alloc o).cell? ⟨w2.heap.size, 0, none⟩ = some (.int .i64 1) ∧ (W.drew.alloc o).cell? ⟨w2.heap.size, 1, none⟩ = some (.int .i64 0) ∧ (W.drew.alloc o).cell? ⟨w2.heap.size, 2, none⟩ = some (.int .i64 sv) ∧ (W.drew.alloc o).cell? ⟨w2.heap.size, 3, none⟩ = some (.pointer (some ⟨s, 0, none⟩)) := fun o => ⟨(World.cell?_of_block (a := ⟨w2.heap.size, 0, none⟩) (heap_alloc_old W.drew o (World.block_lt_of_cell? _ _ e0))).trans e0, (World.cell?_of_block (a := ⟨w2.heap.size, 1, none⟩) (heap_alloc_old W.drew o (World.block_lt_of_cell? _ _ e1))).trans e1, (World.cell?_of_block (a := ⟨w2.heap.size, 2, none⟩) (heap_alloc_old W.drew o (World.block_lt_of_cell? _ _ e2))).trans e2, (World.cell?_of_block (a := ⟨w2.heap.size, 3, none⟩) (heap_alloc_old W.drew o (World.block_lt_of_cell? _ _ e3))).trans e3⟩
        refine wp_region_held_drew (S := (fun W => W.cell? ⟨w2.heap.size, 0, none⟩ = some (.int .i64 1) ∧ W.cell? ⟨w2.heap.size, 1, none⟩ = some (.int .i64 0) ∧ W.cell? ⟨w2.heap.size, 2, none⟩ = some (.int .i64 sv) ∧ W.cell? ⟨w2.heap.size, 3, none⟩ = some (.pointer (some ⟨s, 0, none⟩)))) (by kernel_rfl) ⟨e0, e1, e2, e3⟩ (fun hHeld => ?_)
        refine wpAnyH_take (i := 0) (oi := { dst := some 36, op := Op.move (Operand.tmp 8), type := 95, pos := "state.go:41", after := #[], guard := none }) (v := .pointer (some ⟨st, 0, none⟩)) rfl (by kernel_rfl) (by kernel_rfl) (by kernel_rfl) (fun _ _ _ h => h) (Or.inl ⟨by rfl, fun w hSw => by (try dsimp only at hSw); go_simp⟩) (by assumption) ?_
        try simp only [Act.put, List.setIfInBounds_toArray, List.set_cons_zero, List.set_cons_succ]
        refine wpAnyH_take (i := 1) (oi := { dst := some 37, op := Op.move (Operand.tmp 8), type := 95, pos := "state.go:41", after := #[], guard := none }) (v := .pointer (some ⟨st, 0, none⟩)) rfl (by kernel_rfl) (by kernel_rfl) (by kernel_rfl) (fun _ _ _ h => h) (Or.inl ⟨by rfl, fun w hSw => by (try dsimp only at hSw); go_simp⟩) (by assumption) ?_
        try simp only [Act.put, List.setIfInBounds_toArray, List.set_cons_zero, List.set_cons_succ]
        refine wpAnyH_take (i := 2) (oi := { dst := some 38, op := Op.nilCheck (Operand.tmp 37), type := 0, pos := "state.go:41", after := #[{ on := 1, ground := Ground.data }], guard := none }) (v := .pointer (some ⟨st, 0, none⟩)) rfl (by kernel_rfl) (by kernel_rfl) (by kernel_rfl) (fun _ _ _ h => h) (Or.inl ⟨by rfl, fun w hSw => by (try dsimp only at hSw); go_simp⟩) (by assumption) ?_
        try simp only [Act.put, List.setIfInBounds_toArray, List.set_cons_zero, List.set_cons_succ]
        refine wpAnyH_take (i := 3) (oi := { dst := some 39, op := Op.fieldAddr 151 (Operand.tmp 38) 2, type := 0, pos := "state.go:41", after := #[{ on := 2, ground := Ground.data }], guard := none }) (v := .pointer (some ⟨st, 2, none⟩)) rfl (by kernel_rfl) (by kernel_rfl) (by kernel_rfl) (fun _ _ _ h => h) (Or.inl ⟨by rfl, fun w hSw => by (try dsimp only at hSw); go_simp⟩) (by assumption) ?_
        try simp only [Act.put, List.setIfInBounds_toArray, List.set_cons_zero, List.set_cons_succ]
        refine wpAnyH_take (i := 5) (oi := { dst := some 41, op := Op.load 155 (Operand.tmp 10), type := 155, pos := "state.go:41", after := #[], guard := none }) (v := .agg #[.int .i64 1, .int .i64 0, .int .i64 sv, .pointer (some ⟨s, 0, none⟩)]) rfl (by kernel_rfl) (by kernel_rfl) (by kernel_rfl) (fun _ _ _ h => h) (Or.inl ⟨by rfl, fun w hSw => by (try dsimp only at hSw); go_simp⟩) (by assumption) ?_
        try simp only [Act.put, List.setIfInBounds_toArray, List.set_cons_zero, List.set_cons_succ]
        refine wpAnyH_ready (rs := [4, 6]) (by kernel_rfl) (by simp) ?_
        refine AllReadyH.cons (o := { dst := some 40, op := Op.load 149 (Operand.tmp 39), type := 149, pos := "state.go:41", after := #[{ on := 3, ground := Ground.data }], guard := none }) rfl (fun K hK => ?_) (AllReadyH.cons (o := { dst := some 42, op := Op.buildSlice 149 1 #[(0, Operand.tmp 41)], type := 149, pos := "state.go:41", after := #[{ on := 5, ground := Ground.data }], guard := none }) rfl (fun K hK => ?_) AllReadyH.nil)
        go_simp
        refine hK.out _ _ (by first | exact ⟨e0, e1, e2, e3⟩ | exact kk _ | exact ⟨m0, m1, m2, m3⟩ | exact ⟨n0, n1, n2, n3⟩) (fun _ => ?_)
        clear hK K
        try simp only [Act.put, List.setIfInBounds_toArray, List.set_cons_zero, List.set_cons_succ]
        refine wpAnyH_ready (rs := [6]) (by kernel_rfl) (by simp) ?_
        refine AllReadyH.cons (o := { dst := some 42, op := Op.buildSlice 149 1 #[(0, Operand.tmp 41)], type := 149, pos := "state.go:41", after := #[{ on := 5, ground := Ground.data }], guard := none }) rfl (fun K hK => ?_) AllReadyH.nil
        go_simp
        refine hK.out _ _ (by first | exact ⟨e0, e1, e2, e3⟩ | exact kk _ | exact ⟨m0, m1, m2, m3⟩ | exact ⟨n0, n1, n2, n3⟩) (fun _ => ?_)
        clear hK K
        try simp only [Act.put, List.setIfInBounds_toArray, List.set_cons_zero, List.set_cons_succ]
        rotate_left
        go_simp
        refine hK.out _ _ (by first | exact ⟨e0, e1, e2, e3⟩ | exact kk _ | exact ⟨m0, m1, m2, m3⟩ | exact ⟨n0, n1, n2, n3⟩) (fun _ => ?_)
        clear hK K
        try simp only [Act.put, List.setIfInBounds_toArray, List.set_cons_zero, List.set_cons_succ]
        refine wpAnyH_ready (rs := [4]) (by kernel_rfl) (by simp) ?_
        refine AllReadyH.cons (o := { dst := some 40, op := Op.load 149 (Operand.tmp 39), type := 149, pos := "state.go:41", after := #[{ on := 3, ground := Ground.data }], guard := none }) rfl (fun K hK => ?_) AllReadyH.nil
        go_simp
        refine hK.out _ _ (by first | exact ⟨e0, e1, e2, e3⟩ | exact kk _ | exact ⟨m0, m1, m2, m3⟩ | exact ⟨n0, n1, n2, n3⟩) (fun _ => ?_)
        clear hK K
        try simp only [Act.put, List.setIfInBounds_toArray, List.set_cons_zero, List.set_cons_succ]
        all_goals
          refine wpAnyH_ready (rs := [7]) (by kernel_rfl) (by simp) ?_
          refine AllReadyH.cons (o := { dst := some 43, op := Op.call { callee := Callee.builtin Builtin.append, args := #[Operand.tmp 40, Operand.tmp 42], argTypes := #[149, 149] }, type := 149, pos := "state.go:41", after := #[{ on := 4, ground := Ground.data }, { on := 6, ground := Ground.data }], guard := none }) rfl (fun K hK => ?_) AllReadyH.nil
          refine step_append_lies _ rfl _ _ 149 rfl 0 155 ie z 4 32 Tryz.underlying149 hie hze hisz hib hzs (by decide) v rs.length _ rfl ((HS.out.1.row.alloc _).drew) ⟨W.heap.size, 0, none⟩ 1 1 (rc ((1, (sv : Int), some (s, t)) : HRow)) rfl rfl (fun q u hu => World.news_of_block (heap_alloc_new W (.cells (rc ((1, (sv : Int), some (s, t)) : HRow)).toArray 155)) q u hu) (by simp [rc, Value.oneCell']) (by decide) (by simp [maxLen]; omega) (by omega) (Nat.zero_le _) _ rfl (fun g cap w6 q1 q2 q3 q4 => ?_)
          have hw2 : ∀ b, b < W.heap.size → v.ownBlock ≠ some b → w6.heap[b]? = W.heap[b]? := fun b hb hn => (q2.block b (by simp; omega) (fun e => hn e.symm)).trans (heap_alloc_old W.drew _ hb)
          have hst6 := (hw2 st hstl hvn).trans HS.out.1.blk
          have s1 := (cellD hst6 2).1
          have s1f := (cellD hst6 2).2
          have hvw : v.ownBlock ≠ some w2.heap.size := (fun e => absurd (HR.out.1.row.lt _ e).2 (by omega))
          have hcl := World.block_lt_of_cell? _ _ e0
          obtain ⟨m0, m1, m2, m3⟩ : w6.cell? ⟨w2.heap.size, 0, none⟩ = some (.int .i64 1) ∧ w6.cell? ⟨w2.heap.size, 1, none⟩ = some (.int .i64 0) ∧ w6.cell? ⟨w2.heap.size, 2, none⟩ = some (.int .i64 sv) ∧ w6.cell? ⟨w2.heap.size, 3, none⟩ = some (.pointer (some ⟨s, 0, none⟩)) := ⟨(World.cell?_of_block (a := ⟨w2.heap.size, 0, none⟩) (hw2 _ hcl hvw)).trans e0, (World.cell?_of_block (a := ⟨w2.heap.size, 1, none⟩) (hw2 _ hcl hvw)).trans e1, (World.cell?_of_block (a := ⟨w2.heap.size, 2, none⟩) (hw2 _ hcl hvw)).trans e2, (World.cell?_of_block (a := ⟨w2.heap.size, 3, none⟩) (hw2 _ hcl hvw)).trans e3⟩
          obtain ⟨n0, n1, n2, n3⟩ : (w6.setCell ⟨st, 2, none⟩ (.slice (some ⟨g, 0, none⟩) (rs.length + 1) cap)).cell? ⟨w2.heap.size, 0, none⟩ = some (.int .i64 1) ∧ (w6.setCell ⟨st, 2, none⟩ (.slice (some ⟨g, 0, none⟩) (rs.length + 1) cap)).cell? ⟨w2.heap.size, 1, none⟩ = some (.int .i64 0) ∧ (w6.setCell ⟨st, 2, none⟩ (.slice (some ⟨g, 0, none⟩) (rs.length + 1) cap)).cell? ⟨w2.heap.size, 2, none⟩ = some (.int .i64 sv) ∧ (w6.setCell ⟨st, 2, none⟩ (.slice (some ⟨g, 0, none⟩) (rs.length + 1) cap)).cell? ⟨w2.heap.size, 3, none⟩ = some (.pointer (some ⟨s, 0, none⟩)) := ⟨(World.cell?_of_block (a := ⟨w2.heap.size, 0, none⟩) (set_other _ _ _ _ (by simp only; omega))).trans m0, (World.cell?_of_block (a := ⟨w2.heap.size, 1, none⟩) (set_other _ _ _ _ (by simp only; omega))).trans m1, (World.cell?_of_block (a := ⟨w2.heap.size, 2, none⟩) (set_other _ _ _ _ (by simp only; omega))).trans m2, (World.cell?_of_block (a := ⟨w2.heap.size, 3, none⟩) (set_other _ _ _ _ (by simp only; omega))).trans m3⟩
          skip
          refine hK.out _ _ (by first | exact ⟨e0, e1, e2, e3⟩ | exact kk _ | exact ⟨m0, m1, m2, m3⟩ | exact ⟨n0, n1, n2, n3⟩) (fun _ => ?_)
          clear hK K
          try simp only [Act.put, List.setIfInBounds_toArray, List.set_cons_zero, List.set_cons_succ]
          refine wpAnyH_take (i := 8) (oi := { dst := some 44, op := Op.nilCheck (Operand.tmp 36), type := 0, pos := "state.go:41", after := #[{ on := 0, ground := Ground.data }, { on := 0, ground := Ground.phase }, { on := 1, ground := Ground.phase }, { on := 2, ground := Ground.phase }, { on := 3, ground := Ground.phase }, { on := 4, ground := Ground.phase }, { on := 5, ground := Ground.phase }, { on := 6, ground := Ground.phase }, { on := 7, ground := Ground.phase }], guard := none }) (v := .pointer (some ⟨st, 0, none⟩)) rfl (by kernel_rfl) (by kernel_rfl) (by kernel_rfl) (fun _ _ _ h => h) (Or.inl ⟨by rfl, fun w hSw => by (try dsimp only at hSw); go_simp⟩) (by assumption) ?_
          try simp only [Act.put, List.setIfInBounds_toArray, List.set_cons_zero, List.set_cons_succ]
          refine wpAnyH_take (i := 9) (oi := { dst := some 45, op := Op.fieldAddr 151 (Operand.tmp 44) 2, type := 0, pos := "state.go:41", after := #[{ on := 8, ground := Ground.data }, { on := 0, ground := Ground.phase }, { on := 1, ground := Ground.phase }, { on := 2, ground := Ground.phase }, { on := 3, ground := Ground.phase }, { on := 4, ground := Ground.phase }, { on := 5, ground := Ground.phase }, { on := 6, ground := Ground.phase }, { on := 7, ground := Ground.phase }], guard := none }) (v := .pointer (some ⟨st, 2, none⟩)) rfl (by kernel_rfl) (by kernel_rfl) (by kernel_rfl) (fun _ _ _ h => h) (Or.inl ⟨by rfl, fun w hSw => by (try dsimp only at hSw); go_simp⟩) (by assumption) ?_
          try simp only [Act.put, List.setIfInBounds_toArray, List.set_cons_zero, List.set_cons_succ]
          refine wpAnyH_ready (rs := [10]) (by kernel_rfl) (by simp) ?_
          refine AllReadyH.cons (o := { dst := none, op := Op.store 149 (Operand.tmp 45) (Operand.tmp 43), type := 0, pos := "state.go:41", after := #[{ on := 9, ground := Ground.data }, { on := 7, ground := Ground.data }, { on := 7, ground := Ground.chain }, { on := 0, ground := Ground.phase }, { on := 1, ground := Ground.phase }, { on := 2, ground := Ground.phase }, { on := 3, ground := Ground.phase }, { on := 4, ground := Ground.phase }, { on := 5, ground := Ground.phase }, { on := 6, ground := Ground.phase }, { on := 7, ground := Ground.phase }], guard := none }) rfl (fun K hK => ?_) AllReadyH.nil
          go_simp
          refine hK.out _ _ (by first | exact ⟨e0, e1, e2, e3⟩ | exact kk _ | exact ⟨m0, m1, m2, m3⟩ | exact ⟨n0, n1, n2, n3⟩) (fun _ => ?_)
          clear hK K
          try simp only [Act.put, List.setIfInBounds_toArray, List.set_cons_zero, List.set_cons_succ]
          refine wpAnyH_done (by kernel_rfl) ?_ _
          go_wp2
          have hA := HS.out.1.app (fun b hb => Nat.lt_of_lt_of_le hb (Nat.le_trans HR.out.2.2.size HS.out.2.size)) ((1, (sv : Int), some (s, t)) : HRow) (fun s' t' e => by
            cases e
            exact ⟨HD.out, ⟨fun e => absurd (HR.out.1.row.lt _ e).2 (by omega), fun e => absurd (HR.out.1.row.lt _ e).2 (by omega)⟩, by omega, by omega, by have := HR.out.2.2.size; omega, by have := HR.out.2.2.size; omega⟩) _ q1 q2 q3
          refine ⟨⟨rs.length + 1, _, rs ++ [((1, (sv : Int), some (s, t)) : HRow)], by omega, by go_num, hA, by simp, fun i r' hi => ?_, ?_⟩, by simp [intOf]; omega⟩
          · by_cases hil : i < rs.length
            · rw [List.getElem?_append_left hil] at hi
              exact HR.out.2.1 i r' hi
            · have hie : i = rs.length := by
                have := (List.getElem?_eq_some_iff.1 hi).1
                simp at this
                omega
              subst hie
              simp at hi
              rw [← hi]
              exact .inl ⟨by rw [hh], _, rfl⟩
          · have hB1 : Below w.heap.size w W := HR.out.2.2.trans (HS.out.2.mono HR.out.2.2.size)
            have hB2 := ((hB1.alloc hB1.size _).drew.grown q2 (Nat.le_trans hB1.size (by simp)) fun k hk => Nat.le_of_not_lt (HS.out.1.own.2 k hk))
            exact hB2.setCell hst' _
      · go_upto_region 10 with (first
          | (go_at_call 74; refine (HH.out rs.length hjm _).mono ?_; rintro e w1 ⟨rfl, hb1⟩; have H1 := Lib.hid hb1; clear hb1)
          | (go_at_call 73; refine (begin_other _ sv (H rs.length) (by omega)).mono ?_; rintro e w2 ⟨rfl, hb2⟩; have H2 := Lib.hid (show Below wr.heap.size wr w2 from H1.out.trans (hb2.mono H1.out.size)); clear hb2))
        obtain ⟨W, hW⟩ : ∃ W, W = w2.alloc (.cells #[.int .i64 0, .int .i64 0, .int .i64 (H rs.length : Nat), .pointer none] 155) := ⟨_, rfl⟩
        have hs2 := H2.out.size
        have hB : Below wr.heap.size wr W := hW ▸ H2.out.alloc hs2 _
        have hc : W.heap[w2.heap.size]? = some (.cells #[.int .i64 0, .int .i64 0, .int .i64 (H rs.length : Nat), .pointer none] 155 (0, 0)) := by
          rw [hW]
          exact heap_alloc_new w2 _
        rw [← hW]
        clear hW
        have hS := HR.out.1.below hB
        have k0 := (cellD hc 0).1
        have k1 := (cellD hc 1).1
        have k2 := (cellD hc 2).1
        have k3 := (cellD hc 3).1
        have k4 := (cellD hS.blk 2).1
        have hvn := hS.own.1
        have HS := Lib.hid (show _ ∧ _ from ⟨hS, hB⟩)
        have hstl : st < W.heap.size := (Array.getElem?_eq_some_iff.1 hS.blk).1
        clear hS hc hB
        obtain ⟨ie, z, hie, hze, hisz, hib, hzs⟩ : ∃ ie z, Tryz.prog.info? 155 = some ie ∧ ie.zero = some z ∧ ie.size = 4 ∧ ie.bytes = 32 ∧ z.cells.size = 4 := ⟨_, _, rfl, rfl, rfl, rfl, rfl⟩
        obtain ⟨e0, e1, e2, e3⟩ : (W.cell? ⟨w2.heap.size, 0, none⟩ = some (.int .i64 0) ∧ W.cell? ⟨w2.heap.size, 1, none⟩ = some (.int .i64 0) ∧ W.cell? ⟨w2.heap.size, 2, none⟩ = some (.int .i64 (H rs.length : Nat)) ∧ W.cell? ⟨w2.heap.size, 3, none⟩ = some (.pointer none)) := ⟨k0, k1, k2, k3⟩
        clear k0 k1 k2 k3
        have kk : ∀ o : Obj, (W.drew.alloc o).cell? ⟨w2.heap.size, 0, none⟩ = some (.int .i64 0) ∧ (W.drew.alloc o).cell? ⟨w2.heap.size, 1, none⟩ = some (.int .i64 0) ∧ (W.drew.alloc o).cell? ⟨w2.heap.size, 2, none⟩ = some (.int .i64 (H rs.length : Nat)) ∧ (W.drew.alloc o).cell? ⟨w2.heap.size, 3, none⟩ = some (.pointer none) := fun o => ⟨(World.cell?_of_block (a := ⟨w2.heap.size, 0, none⟩) (heap_alloc_old W.drew o (World.block_lt_of_cell? _ _ e0))).trans e0, (World.cell?_of_block (a := ⟨w2.heap.size, 1, none⟩) (heap_alloc_old W.drew o (World.block_lt_of_cell? _ _ e1))).trans e1, (World.cell?_of_block (a := ⟨w2.heap.size, 2, none⟩) (heap_alloc_old W.drew o (World.block_lt_of_cell? _ _ e2))).trans e2, (World.cell?_of_block (a := ⟨w2.heap.size, 3, none⟩) (heap_alloc_old W.drew o (World.block_lt_of_cell? _ _ e3))).trans e3⟩
        refine wp_region_held_drew (S := (fun W => W.cell? ⟨w2.heap.size, 0, none⟩ = some (.int .i64 0) ∧ W.cell? ⟨w2.heap.size, 1, none⟩ = some (.int .i64 0) ∧ W.cell? ⟨w2.heap.size, 2, none⟩ = some (.int .i64 (H rs.length : Nat)) ∧ W.cell? ⟨w2.heap.size, 3, none⟩ = some (.pointer none))) (by kernel_rfl) ⟨e0, e1, e2, e3⟩ (fun hHeld => ?_)
        refine wpAnyH_take (i := 0) (oi := { dst := some 36, op := Op.move (Operand.tmp 8), type := 95, pos := "state.go:41", after := #[], guard := none }) (v := .pointer (some ⟨st, 0, none⟩)) rfl (by kernel_rfl) (by kernel_rfl) (by kernel_rfl) (fun _ _ _ h => h) (Or.inl ⟨by rfl, fun w hSw => by (try dsimp only at hSw); go_simp⟩) (by assumption) ?_
        try simp only [Act.put, List.setIfInBounds_toArray, List.set_cons_zero, List.set_cons_succ]
        refine wpAnyH_take (i := 1) (oi := { dst := some 37, op := Op.move (Operand.tmp 8), type := 95, pos := "state.go:41", after := #[], guard := none }) (v := .pointer (some ⟨st, 0, none⟩)) rfl (by kernel_rfl) (by kernel_rfl) (by kernel_rfl) (fun _ _ _ h => h) (Or.inl ⟨by rfl, fun w hSw => by (try dsimp only at hSw); go_simp⟩) (by assumption) ?_
        try simp only [Act.put, List.setIfInBounds_toArray, List.set_cons_zero, List.set_cons_succ]
        refine wpAnyH_take (i := 2) (oi := { dst := some 38, op := Op.nilCheck (Operand.tmp 37), type := 0, pos := "state.go:41", after := #[{ on := 1, ground := Ground.data }], guard := none }) (v := .pointer (some ⟨st, 0, none⟩)) rfl (by kernel_rfl) (by kernel_rfl) (by kernel_rfl) (fun _ _ _ h => h) (Or.inl ⟨by rfl, fun w hSw => by (try dsimp only at hSw); go_simp⟩) (by assumption) ?_
        try simp only [Act.put, List.setIfInBounds_toArray, List.set_cons_zero, List.set_cons_succ]
        refine wpAnyH_take (i := 3) (oi := { dst := some 39, op := Op.fieldAddr 151 (Operand.tmp 38) 2, type := 0, pos := "state.go:41", after := #[{ on := 2, ground := Ground.data }], guard := none }) (v := .pointer (some ⟨st, 2, none⟩)) rfl (by kernel_rfl) (by kernel_rfl) (by kernel_rfl) (fun _ _ _ h => h) (Or.inl ⟨by rfl, fun w hSw => by (try dsimp only at hSw); go_simp⟩) (by assumption) ?_
        try simp only [Act.put, List.setIfInBounds_toArray, List.set_cons_zero, List.set_cons_succ]
        refine wpAnyH_take (i := 5) (oi := { dst := some 41, op := Op.load 155 (Operand.tmp 10), type := 155, pos := "state.go:41", after := #[], guard := none }) (v := .agg #[.int .i64 0, .int .i64 0, .int .i64 (H rs.length : Nat), .pointer none]) rfl (by kernel_rfl) (by kernel_rfl) (by kernel_rfl) (fun _ _ _ h => h) (Or.inl ⟨by rfl, fun w hSw => by (try dsimp only at hSw); go_simp⟩) (by assumption) ?_
        try simp only [Act.put, List.setIfInBounds_toArray, List.set_cons_zero, List.set_cons_succ]
        refine wpAnyH_ready (rs := [4, 6]) (by kernel_rfl) (by simp) ?_
        refine AllReadyH.cons (o := { dst := some 40, op := Op.load 149 (Operand.tmp 39), type := 149, pos := "state.go:41", after := #[{ on := 3, ground := Ground.data }], guard := none }) rfl (fun K hK => ?_) (AllReadyH.cons (o := { dst := some 42, op := Op.buildSlice 149 1 #[(0, Operand.tmp 41)], type := 149, pos := "state.go:41", after := #[{ on := 5, ground := Ground.data }], guard := none }) rfl (fun K hK => ?_) AllReadyH.nil)
        go_simp
        refine hK.out _ _ (by first | exact ⟨e0, e1, e2, e3⟩ | exact kk _ | exact ⟨m0, m1, m2, m3⟩ | exact ⟨n0, n1, n2, n3⟩) (fun _ => ?_)
        clear hK K
        try simp only [Act.put, List.setIfInBounds_toArray, List.set_cons_zero, List.set_cons_succ]
        refine wpAnyH_ready (rs := [6]) (by kernel_rfl) (by simp) ?_
        refine AllReadyH.cons (o := { dst := some 42, op := Op.buildSlice 149 1 #[(0, Operand.tmp 41)], type := 149, pos := "state.go:41", after := #[{ on := 5, ground := Ground.data }], guard := none }) rfl (fun K hK => ?_) AllReadyH.nil
        go_simp
        refine hK.out _ _ (by first | exact ⟨e0, e1, e2, e3⟩ | exact kk _ | exact ⟨m0, m1, m2, m3⟩ | exact ⟨n0, n1, n2, n3⟩) (fun _ => ?_)
        clear hK K
        try simp only [Act.put, List.setIfInBounds_toArray, List.set_cons_zero, List.set_cons_succ]
        rotate_left
        go_simp
        refine hK.out _ _ (by first | exact ⟨e0, e1, e2, e3⟩ | exact kk _ | exact ⟨m0, m1, m2, m3⟩ | exact ⟨n0, n1, n2, n3⟩) (fun _ => ?_)
        clear hK K
        try simp only [Act.put, List.setIfInBounds_toArray, List.set_cons_zero, List.set_cons_succ]
        refine wpAnyH_ready (rs := [4]) (by kernel_rfl) (by simp) ?_
        refine AllReadyH.cons (o := { dst := some 40, op := Op.load 149 (Operand.tmp 39), type := 149, pos := "state.go:41", after := #[{ on := 3, ground := Ground.data }], guard := none }) rfl (fun K hK => ?_) AllReadyH.nil
        go_simp
        refine hK.out _ _ (by first | exact ⟨e0, e1, e2, e3⟩ | exact kk _ | exact ⟨m0, m1, m2, m3⟩ | exact ⟨n0, n1, n2, n3⟩) (fun _ => ?_)
        clear hK K
        try simp only [Act.put, List.setIfInBounds_toArray, List.set_cons_zero, List.set_cons_succ]
        all_goals
          refine wpAnyH_ready (rs := [7]) (by kernel_rfl) (by simp) ?_
          refine AllReadyH.cons (o := { dst := some 43, op := Op.call { callee := Callee.builtin Builtin.append, args := #[Operand.tmp 40, Operand.tmp 42], argTypes := #[149, 149] }, type := 149, pos := "state.go:41", after := #[{ on := 4, ground := Ground.data }, { on := 6, ground := Ground.data }], guard := none }) rfl (fun K hK => ?_) AllReadyH.nil
          refine step_append_lies _ rfl _ _ 149 rfl 0 155 ie z 4 32 Tryz.underlying149 hie hze hisz hib hzs (by decide) v rs.length _ rfl ((HS.out.1.row.alloc _).drew) ⟨W.heap.size, 0, none⟩ 1 1 (rc ((0, (H rs.length : Int), none) : HRow)) rfl rfl (fun q u hu => World.news_of_block (heap_alloc_new W (.cells (rc ((0, (H rs.length : Int), none) : HRow)).toArray 155)) q u hu) (by simp [rc, Value.oneCell']) (by decide) (by simp [maxLen]; omega) (by omega) (Nat.zero_le _) _ rfl (fun g cap w6 q1 q2 q3 q4 => ?_)
          have hw2 : ∀ b, b < W.heap.size → v.ownBlock ≠ some b → w6.heap[b]? = W.heap[b]? := fun b hb hn => (q2.block b (by simp; omega) (fun e => hn e.symm)).trans (heap_alloc_old W.drew _ hb)
          have hst6 := (hw2 st hstl hvn).trans HS.out.1.blk
          have s1 := (cellD hst6 2).1
          have s1f := (cellD hst6 2).2
          have hvw : v.ownBlock ≠ some w2.heap.size := (fun e => absurd (HR.out.1.row.lt _ e).2 (by omega))
          have hcl := World.block_lt_of_cell? _ _ e0
          obtain ⟨m0, m1, m2, m3⟩ : w6.cell? ⟨w2.heap.size, 0, none⟩ = some (.int .i64 0) ∧ w6.cell? ⟨w2.heap.size, 1, none⟩ = some (.int .i64 0) ∧ w6.cell? ⟨w2.heap.size, 2, none⟩ = some (.int .i64 (H rs.length : Nat)) ∧ w6.cell? ⟨w2.heap.size, 3, none⟩ = some (.pointer none) := ⟨(World.cell?_of_block (a := ⟨w2.heap.size, 0, none⟩) (hw2 _ hcl hvw)).trans e0, (World.cell?_of_block (a := ⟨w2.heap.size, 1, none⟩) (hw2 _ hcl hvw)).trans e1, (World.cell?_of_block (a := ⟨w2.heap.size, 2, none⟩) (hw2 _ hcl hvw)).trans e2, (World.cell?_of_block (a := ⟨w2.heap.size, 3, none⟩) (hw2 _ hcl hvw)).trans e3⟩
          obtain ⟨n0, n1, n2, n3⟩ : (w6.setCell ⟨st, 2, none⟩ (.slice (some ⟨g, 0, none⟩) (rs.length + 1) cap)).cell? ⟨w2.heap.size, 0, none⟩ = some (.int .i64 0) ∧ (w6.setCell ⟨st, 2, none⟩ (.slice (some ⟨g, 0, none⟩) (rs.length + 1) cap)).cell? ⟨w2.heap.size, 1, none⟩ = some (.int .i64 0) ∧ (w6.setCell ⟨st, 2, none⟩ (.slice (some ⟨g, 0, none⟩) (rs.length + 1) cap)).cell? ⟨w2.heap.size, 2, none⟩ = some (.int .i64 (H rs.length : Nat)) ∧ (w6.setCell ⟨st, 2, none⟩ (.slice (some ⟨g, 0, none⟩) (rs.length + 1) cap)).cell? ⟨w2.heap.size, 3, none⟩ = some (.pointer none) := ⟨(World.cell?_of_block (a := ⟨w2.heap.size, 0, none⟩) (set_other _ _ _ _ (by simp only; omega))).trans m0, (World.cell?_of_block (a := ⟨w2.heap.size, 1, none⟩) (set_other _ _ _ _ (by simp only; omega))).trans m1, (World.cell?_of_block (a := ⟨w2.heap.size, 2, none⟩) (set_other _ _ _ _ (by simp only; omega))).trans m2, (World.cell?_of_block (a := ⟨w2.heap.size, 3, none⟩) (set_other _ _ _ _ (by simp only; omega))).trans m3⟩
          skip
          refine hK.out _ _ (by first | exact ⟨e0, e1, e2, e3⟩ | exact kk _ | exact ⟨m0, m1, m2, m3⟩ | exact ⟨n0, n1, n2, n3⟩) (fun _ => ?_)
          clear hK K
          try simp only [Act.put, List.setIfInBounds_toArray, List.set_cons_zero, List.set_cons_succ]
          refine wpAnyH_take (i := 8) (oi := { dst := some 44, op := Op.nilCheck (Operand.tmp 36), type := 0, pos := "state.go:41", after := #[{ on := 0, ground := Ground.data }, { on := 0, ground := Ground.phase }, { on := 1, ground := Ground.phase }, { on := 2, ground := Ground.phase }, { on := 3, ground := Ground.phase }, { on := 4, ground := Ground.phase }, { on := 5, ground := Ground.phase }, { on := 6, ground := Ground.phase }, { on := 7, ground := Ground.phase }], guard := none }) (v := .pointer (some ⟨st, 0, none⟩)) rfl (by kernel_rfl) (by kernel_rfl) (by kernel_rfl) (fun _ _ _ h => h) (Or.inl ⟨by rfl, fun w hSw => by (try dsimp only at hSw); go_simp⟩) (by assumption) ?_
          try simp only [Act.put, List.setIfInBounds_toArray, List.set_cons_zero, List.set_cons_succ]
          refine wpAnyH_take (i := 9) (oi := { dst := some 45, op := Op.fieldAddr 151 (Operand.tmp 44) 2, type := 0, pos := "state.go:41", after := #[{ on := 8, ground := Ground.data }, { on := 0, ground := Ground.phase }, { on := 1, ground := Ground.phase }, { on := 2, ground := Ground.phase }, { on := 3, ground := Ground.phase }, { on := 4, ground := Ground.phase }, { on := 5, ground := Ground.phase }, { on := 6, ground := Ground.phase }, { on := 7, ground := Ground.phase }], guard := none }) (v := .pointer (some ⟨st, 2, none⟩)) rfl (by kernel_rfl) (by kernel_rfl) (by kernel_rfl) (fun _ _ _ h => h) (Or.inl ⟨by rfl, fun w hSw => by (try dsimp only at hSw); go_simp⟩) (by assumption) ?_
          try simp only [Act.put, List.setIfInBounds_toArray, List.set_cons_zero, List.set_cons_succ]
          refine wpAnyH_ready (rs := [10]) (by kernel_rfl) (by simp) ?_
          refine AllReadyH.cons (o := { dst := none, op := Op.store 149 (Operand.tmp 45) (Operand.tmp 43), type := 0, pos := "state.go:41", after := #[{ on := 9, ground := Ground.data }, { on := 7, ground := Ground.data }, { on := 7, ground := Ground.chain }, { on := 0, ground := Ground.phase }, { on := 1, ground := Ground.phase }, { on := 2, ground := Ground.phase }, { on := 3, ground := Ground.phase }, { on := 4, ground := Ground.phase }, { on := 5, ground := Ground.phase }, { on := 6, ground := Ground.phase }, { on := 7, ground := Ground.phase }], guard := none }) rfl (fun K hK => ?_) AllReadyH.nil
          go_simp
          refine hK.out _ _ (by first | exact ⟨e0, e1, e2, e3⟩ | exact kk _ | exact ⟨m0, m1, m2, m3⟩ | exact ⟨n0, n1, n2, n3⟩) (fun _ => ?_)
          clear hK K
          try simp only [Act.put, List.setIfInBounds_toArray, List.set_cons_zero, List.set_cons_succ]
          refine wpAnyH_done (by kernel_rfl) ?_ _
          go_wp2
          have hA := HS.out.1.app (fun b hb => Nat.lt_of_lt_of_le hb (Nat.le_trans HR.out.2.2.size HS.out.2.size)) ((0, (H rs.length : Int), none) : HRow) (fun s' t' e => by cases e) _ q1 q2 q3
          refine ⟨⟨rs.length + 1, _, rs ++ [((0, (H rs.length : Int), none) : HRow)], by omega, by go_num, hA, by simp, fun i r' hi => ?_, ?_⟩, by simp [intOf]; omega⟩
          · by_cases hil : i < rs.length
            · rw [List.getElem?_append_left hil] at hi
              exact HR.out.2.1 i r' hi
            · have hie : i = rs.length := by
                have := (List.getElem?_eq_some_iff.1 hi).1
                simp at this
                omega
              subst hie
              simp at hi
              rw [← hi]
              exact .inr ⟨fun e => hh (by omega), rfl⟩
          · have hB1 : Below w.heap.size w W := HR.out.2.2.trans (HS.out.2.mono HR.out.2.2.size)
            have hB2 := ((hB1.alloc hB1.size _).drew.grown q2 (Nat.le_trans hB1.size (by simp)) fun k hk => Nat.le_of_not_lt (HS.out.1.own.2 k hk))
            exact hB2.setCell hst' _
    · have hml : rs.length = m := by omega
      go_wp2
      go_ret2
      exact ⟨st, rs, rfl, ⟨v, HR.out.1⟩, hml, HR.out.2.1, HR.out.2.2, hst'⟩
end Go.Proofs.YtokflmiijdpchaaGreat
