/- A sector is written. -/
import Derived.Test.YtokflmiijdpchaaGreatD12
import Derived.Deep.RegionHeld3
import Derived.Great.BuildSlice
import Derived.Laws.Cover3
import Derived.Deep.AppendLies
namespace Go.Proofs.YtokflmiijdpchaaGreat
open Go.RowKit
theorem fill_one (place : Nat → Option (Nat × Nat)) (cells : Array Value) (i off size : Nat) (v : Value) (rest : List (Nat × Value)) (hp : place i = some (off, size)) (hv : v.cells.size = size) (hc : off + size ≤ cells.size) :
    Instr.fill place cells ((i, v) :: rest) = Instr.fill place ((v.cells.toList.zipIdx 0).foldl (fun cs (x : Value × Nat) => cs.setIfInBounds (off + x.2) x.1) cells) rest := by
  rw [Instr.fill]
  simp only [hp]
  rw [if_neg (by simp [hv]; omega)]
  congr 1
  rw [← Array.foldl_toList, Array.toList_zipIdx]
theorem fill_pend (v0 : Value) (h0 : v0.cells = #[v0]) (cs : List Value) (cells : Array Value) (hc : cells.size = cs.length + 1) (place : Nat → Option (Nat × Nat)) (hp0 : place 0 = some (0, 1)) (hp1 : place 1 = some (1, cs.length)) : Instr.fill place cells [(0, v0), (1, .agg cs.toArray)] = some (v0 :: cs).toArray := by
  have ha : (Value.agg cs.toArray).cells = cs.toArray := rfl
  rw [fill_one place cells 0 0 1 v0 _ hp0 (by rw [h0]; rfl) (by omega), h0]
  have hs1 : ((#[v0].toList.zipIdx 0).foldl (fun cs (x : Value × Nat) => cs.setIfInBounds (0 + x.2) x.1) cells) = cells.setIfInBounds 0 v0 := by simp
  rw [hs1, fill_one place _ 1 1 cs.length _ _ hp1 (by rw [ha]; simp) (by simp; omega), ha]
  obtain ⟨g1, g2⟩ := Great.foldl_set 1 cs 0 (cells.setIfInBounds 0 v0)
  rw [Instr.fill]
  congr 1
  apply Array.ext_getElem?
  intro k
  have ht : cs.toArray.toList = cs := by simp
  rw [ht, g2 k]
  rcases k with _ | k
  · rw [if_neg (by omega)]
    simp [show 0 < cells.size by omega]
  · by_cases hk : k < cs.length
    · rw [if_pos (by simp; omega)]
      simp [show k + 1 - 1 = k by omega]
    · rw [if_neg (by omega), Array.getElem?_eq_none (by simp; omega), Array.getElem?_eq_none (by simp; omega)]
set_option maxRecDepth 100000 in
theorem build_pend (W : World) (i : Nat) (cs : List Value) (h : cs.length = 64) : (Instr.build 283 #[(0, .int .i64 i), (1, .agg cs.toArray)]).run Tryz.prog W = .ok (.agg (Value.int .i64 i :: cs).toArray) W := by
  refine run_build W _ _ _ ?_
  have hp : ∃ z places, (Tryz.prog.info? 283).bind (·.zero) = some z ∧ z.cells.size = 65 ∧ Tryz.prog.built 283 [(0, .int .i64 i), (1, .agg cs.toArray)] = Instr.fill (places.toArray[·]?) z.cells [(0, .int .i64 i), (1, .agg cs.toArray)] ∧ places = [(0, 1), (1, 64)] := ⟨_, _, rfl, rfl, rfl, rfl⟩
  obtain ⟨z, places, h1, h2, h3, h4⟩ := hp
  show Tryz.prog.built 283 [(0, .int .i64 i), (1, .agg cs.toArray)] = _
  rw [h3, h4]
  exact fill_pend _ rfl cs _ (by rw [h2, h]) _ rfl (by rw [h]; rfl)
set_option maxRecDepth 100000 in
theorem buildS_pend (W : World) (i : Nat) (cs : List Value) (h : cs.length = 64) : (Instr.buildSlice 85 1 #[(0, .agg (Value.int .i64 i :: cs).toArray)]).run Tryz.prog W = .ok (.slice (some ⟨W.heap.size, 0, none⟩) 1 1) (W.alloc (.cells (Value.int .i64 i :: cs).toArray 283)) := by
  obtain ⟨ie, hie, hz, hs⟩ : ∃ ie, Tryz.prog.info? 283 = some ie ∧ (∃ z, ie.zero = some z ∧ z.cells.size = 65) ∧ ie.size = 65 := ⟨_, rfl, ⟨_, rfl, rfl⟩, rfl⟩
  obtain ⟨z, hz, hzs⟩ := hz
  refine run_buildSlice W _ _ 1 _ _ ie z Tryz.underlying85 hie hz (by rw [hs]; decide) (by rw [hs]; decide) ?_
  rw [hs]
  have hv : (Value.agg (Value.int .i64 i :: cs).toArray).cells = (Value.int .i64 i :: cs).toArray := rfl
  have h1 := Great.fill_whole (s := 65) (by decide) [.agg (Value.int .i64 i :: cs).toArray] ((Array.range (1 * 65)).map (z.cells[· % z.cells.size]!)) (fun v hm => by
    rw [List.mem_singleton] at hm
    rw [hm, hv]
    simp [h]) (by simp)
  have e1 : ([Value.agg (Value.int .i64 i :: cs).toArray].zipIdx 0).map (fun x => (x.2, x.1)) = [(0, Value.agg (Value.int .i64 i :: cs).toArray)] := rfl
  rw [e1] at h1
  have e2 : ([Value.agg (Value.int .i64 i :: cs).toArray].flatMap fun v => v.cells.toList).toArray = (Value.int .i64 i :: cs).toArray := by
    rw [List.flatMap_cons, hv]
    simp
  rw [e2] at h1
  exact h1
theorem wp_of_run {P : Program} {o : Oper} {a : Act} {w w' : World} {K : Act → World → Prop} {Q : Exit → Act → World → Prop} {v : Value} (h : (execOp a.eval o).run P w = .ok (.value v) w') (k : K (a.put o.dst v) w') : o.wp P a w K Q := by
  unfold Oper.wp
  rw [h]
  exact k
theorem run_op_buildSlice {P : Program} {op : Oper} {a : Act} (t : TypeId) (n : Nat) (parts : Array (Nat × Operand)) (ho : op.op = .buildSlice t n parts) (vs : Array (Nat × Value)) (hv : parts.map (fun (i, x) => (i, a.eval x)) = vs) (w w' : World) (v : Value) (hb : (Instr.buildSlice t n vs).run P w = .ok v w') : (execOp a.eval op).run P w = .ok (.value v) w' := by
  unfold execOp
  simp only [ho, hv, Sem.run_bind, Sem.run_pure, Result.andThen_ok, hb]
theorem yields_build {P : Program} {ops : Array Oper} {S : World → Prop} {op : Oper} {a : Act} (hw : Region.wanted op (yielded ops a.tmps) = true) (t : TypeId) (parts : Array (Nat × Operand)) (ho : op.op = .build t parts) (vs : Array (Nat × Value)) (hv : parts.map (fun (i, x) => (i, a.eval x)) = vs) (cells : Array Value)
    (hb : ∀ w, (Instr.build t vs).run P w = .ok (.agg cells) w) : YieldsIf P ops S op (.agg cells) a :=
  .inl ⟨hw, fun w _ => by
    unfold execOp
    simp only [ho, hv, Sem.run_bind, Sem.run_pure, Result.andThen_ok, hb]⟩
attribute [-go_sem] Instr.buildSlice Instr.build
theorem range_grown {W W' : World} {A o : Nat} {cs : List Value} {r : Option Nat} (h : W.rangeAt A o cs) (hg : W.grownBy W' r) (hne : r ≠ some A) (hlt : A < W.heap.size) : W'.rangeAt A o cs := fun j v hv => by
  rw [World.cell?_of_block (a := ⟨A, o + j, none⟩) (hg.block A hlt fun e => hne e.symm)]
  exact h j v hv
theorem four_grown (w : World) (d : Nat) (a b c : Value) : w.grownBy ((((w.setCell ⟨d, 1, none⟩ a).setCell ⟨d, 4, none⟩ b).setCell ⟨d, 3, none⟩ c).drew) (some d) ∧
    ∀ (x : Array Value) (t : TypeId), w.heap[d]? = some (.cells x t (0, 0)) → ((((w.setCell ⟨d, 1, none⟩ a).setCell ⟨d, 4, none⟩ b).setCell ⟨d, 3, none⟩ c).drew).heap[d]? = some (.cells (((x.setIfInBounds 1 a).setIfInBounds 4 b).setIfInBounds 3 c) t (0, 0)) := by
  refine ⟨⟨rfl, rfl, rfl, by simp [World.setCell], fun k _ hne => ?_⟩, fun x t h => ?_⟩
  · have : d ≠ k := fun e => hne (by rw [e])
    show (((w.setCell ⟨d, 1, none⟩ a).setCell ⟨d, 4, none⟩ b).setCell ⟨d, 3, none⟩ c).heap[k]? = _
    simp [World.setCell, Array.getElem?_modify, this]
  · show (((w.setCell ⟨d, 1, none⟩ a).setCell ⟨d, 4, none⟩ b).setCell ⟨d, 3, none⟩ c).heap[d]? = _
    simp [World.setCell, Array.getElem?_modify, h]
theorem pend_more {N k : Nat} {xs : List Value} (h : Pend N k xs) (hl : xs.length = k * 65) (i : Nat) (hi : i < N) {cs : List Value} (hs : Sec cs) : Pend N (k + 1) (xs ++ (.int .i64 i :: cs)) := fun j hj => by
  by_cases hjk : j < k
  · obtain ⟨at_, ds, h1, h2, h3⟩ := h j hjk
    refine ⟨at_, ds, h1, h2, ?_⟩
    have hm : (j + 1) * 65 ≤ k * 65 := Nat.mul_le_mul_right _ hjk
    rw [List.drop_append_of_le_length (by omega), List.take_append_of_le_length (by rw [List.length_drop]; omega), h3]
  · obtain rfl : j = k := by omega
    refine ⟨i, cs, hi, hs, ?_⟩
    rw [← hl, List.drop_left, List.take_of_length_le (by rw [List.length_cons, hs.1]; omega)]
theorem write_fin {w w2 : World} {d N sb k g cap : Nat} {rv : Value} (h : Dsk w d N sb rv k) (hk : k < 1048576) {i : Nat} (hi : i < N) {cs xs : List Value} (hs : Sec cs) (hx : Pend N k xs) (hl : xs.length = k * 65) (o : Obj)
    (q1 : w2.ownsRow 0 283 65 (.slice (some ⟨g, 0, none⟩) (k + 1) cap) (k + 1) (xs ++ (.int .i64 i :: cs))) (q2 : (w.drew.alloc o).grownBy w2 rv.ownBlock) (q3 : rv.ownBlock = some g ∨ g = (w.drew.alloc o).heap.size) {lf c0 c1 : Int}
    (hblk : w2.heap[d]? = some (.cells #[.slice (some ⟨sb, 0, none⟩) N N, rv, .bool false, .int .i64 lf, .int .i64 c0, .int .i64 c1] 88 (0, 0))) (c0' lf' : Int) :
    ∃ rv', Dsk (((w2.setCell ⟨d, 1, none⟩ (.slice (some ⟨g, 0, none⟩) (k + 1) cap)).setCell ⟨d, 4, none⟩ (.int .i64 c0')).setCell ⟨d, 3, none⟩ (.int .i64 lf')).drew d N sb rv' (k + 1) ∧
      But w (((w2.setCell ⟨d, 1, none⟩ (.slice (some ⟨g, 0, none⟩) (k + 1) cap)).setCell ⟨d, 4, none⟩ (.int .i64 c0')).setCell ⟨d, 3, none⟩ (.int .i64 lf')).drew (DF d sb rv) ∧ (rv'.ownBlock = rv.ownBlock ∨ ∃ g, rv'.ownBlock = some g ∧ w.heap.size ≤ g) := by
  have hg := four_grown w2 d (.slice (some ⟨g, 0, none⟩) (k + 1) cap) (.int .i64 c0') (.int .i64 lf')
  have hne := h.row_ne
  have hdl : d < w.heap.size := h.own_lt (.inl rfl)
  have hsl := h.lt
  have hgd : g ≠ d := by
    rcases q3 with q3 | q3
    · exact fun e => hne.2 (e ▸ q3)
    · rw [q3]; simp; omega
  have hsz : w.heap.size ≤ w2.heap.size := Nat.le_trans (by simp) q2.size
  obtain ⟨lf0, c00, c10, hb0⟩ := h.blk
  obtain ⟨c, hs2, hs3⟩ := h.sec
  have hold : ∀ b, b < w.heap.size → rv.ownBlock ≠ some b → w2.heap[b]? = w.heap[b]? := fun b hb hn => (q2.block b (by simp; omega) (fun e => hn e.symm)).trans (heap_alloc_old w.drew o hb)
  refine ⟨.slice (some ⟨g, 0, none⟩) (k + 1) cap, ⟨⟨_, _, _, hg.2 _ _ hblk⟩, ⟨c, ?_, hs3⟩, ⟨0, _, q1.kept hg.1 (.inr (by simpa [Value.ownBlock] using hgd)), pend_more hx hl i hi hs⟩, h.room, by omega⟩, ?_, ?_⟩
  · exact (hg.1.block sb (by omega) (fun e => h.ne (Option.some.inj e))).trans ((hold sb hsl hne.1).trans hs2)
  · refine ⟨hg.1.os.trans q2.os, hg.1.tape.trans q2.tape, hg.1.output.trans q2.output, Nat.le_trans hsz hg.1.size, fun b hb hF => ?_⟩
    exact (hg.1.block b (by omega) (fun e => hF (.inl (Option.some.inj e)))).trans (hold b hb fun e => hF (.inr (.inr e)))
  · rcases q3 with q3 | q3
    · exact .inl q3.symm
    · exact .inr ⟨g, rfl, by rw [q3]; simp⟩
set_option maxRecDepth 100000 in
set_option maxHeartbeats 2000000 in
theorem write_calls (w : World) (d N sb k : Nat) (rv : Value) (h : Dsk w d N sb rv k) (hk : k < 1048576) (i : Nat) (hi : i < N) (A o c : Nat) (cs : List Value) (hsec : Sec cs) (hr : w.rangeAt A o cs) (hA : rv.ownBlock ≠ some A) (hAd : A ≠ d) :
    Calls Tryz.prog 201 #[.pointer (some ⟨d, 0, none⟩), .int .i64 i, .slice (some ⟨A, o, none⟩) 64 c] w fun e w' => ∃ rv', e = .returned (.int .i64 0) ∧ Dsk w' d N sb rv' (k + 1) ∧ But w w' (DF d sb rv) ∧ (rv'.ownBlock = rv.ownBlock ∨ ∃ g, rv'.ownBlock = some g ∧ w.heap.size ≤ g) := by
  have HD := Lib.hid h
  have g0 := h.c0
  have g1 := h.c1
  have hroom := h.room
  have hld : (Instr.loadAt 90 (.pointer (some ⟨A, o, none⟩))).run Tryz.prog w.drew = .ok (.agg cs.toArray) w.drew := run_loadAt_mid w.drew A o _ cs _ ((World.rangeAt_drew _ _ _ _).2 hr) Tryz.underlying90 rfl (by rw [hsec.1]; kernel_rfl)
  have har : ∀ W : World, (Instr.arrayAt 90 (.slice (some ⟨A, o, none⟩) 64 c)).run Tryz.prog W = .ok (.pointer (some ⟨A, o, none⟩)) W := fun W => run_arrayAt (P := Tryz.prog) W _ _ 64 _ 64 c Tryz.underlying90 (Nat.le_refl _)
  have HS := Lib.hid (show _ ∧ _ from ⟨hsec, hr⟩)
  clear h hsec
  go_enter Tryz.func201, Tryz.ntmps201
  go_wp2_with (first
    | (go_at_call 183; refine (power_calls _ d N sb k _ HD.out).mono ?_; rintro e w' ⟨rfl, hw⟩; obtain rfl := hw.symm))
  obtain ⟨BV, hbp, hbs⟩ : ∃ BV : Value, (∀ W : World, (Instr.build 283 #[(0, .int .i64 i), (1, .agg cs.toArray)]).run Tryz.prog W = .ok BV W) ∧ (∀ W : World, (Instr.buildSlice 85 1 #[(0, BV)]).run Tryz.prog W = .ok (.slice (some ⟨W.heap.size, 0, none⟩) 1 1) (W.alloc (.cells (Value.int .i64 i :: cs).toArray 283))) := ⟨_, fun W => build_pend W i cs HS.out.1.1, fun W => buildS_pend W i cs HS.out.1.1⟩
  have hS0 : w.drew.rangeAt A o cs := (World.rangeAt_drew _ _ _ _).2 HS.out.2
  have hun := Tryz.underlying90
  have hsz : (Tryz.prog.info? 90).map (·.size) = some cs.length := by rw [HS.out.1.1]; kernel_rfl
  have hl64 := HS.out.1.1
  have hone : ∀ v ∈ cs, v.oneCell' = true := fun v hv => (HS.out.1.2 v hv).one
  have hAl : A < w.heap.size := by
    obtain ⟨v0, hv0⟩ : ∃ v0, cs[0]? = some v0 := ⟨_, List.getElem?_eq_getElem (by omega)⟩
    exact World.block_lt_of_cell? _ _ (hr 0 v0 hv0)
  obtain ⟨ie, z, hie, hze, hisz, hib, hzs⟩ : ∃ ie z, Tryz.prog.info? 283 = some ie ∧ ie.zero = some z ∧ ie.size = 65 ∧ ie.bytes = 72 ∧ z.cells.size = 65 := ⟨_, _, rfl, rfl, rfl, rfl, rfl⟩
  obtain ⟨base, xs, hrow0, hpend⟩ := HD.out.row
  have hrow : w.ownsRow 0 283 65 rv k xs := hrow0.mono (Nat.zero_le _)
  have HW := Lib.hid (show _ ∧ _ from ⟨hrow, hpend⟩)
  clear hrow0 hrow hpend
  have hne := HD.out.row_ne
  obtain ⟨lf, c0, c1, hblk⟩ := HD.out.blk
  have hdl : d < w.heap.size := HD.out.own_lt (.inl rfl)
  refine wp_region_held_drew (S := fun W => W.rangeAt A o cs) (by kernel_rfl) hS0 (fun hHeld => ?_)
  refine wpAnyH_take (i := 0) (oi := { dst := some 29, op := Op.move (Operand.tmp 0), type := 62, pos := "disk.go:75", after := #[], guard := none }) (v := .pointer (some ⟨d, 0, none⟩)) rfl (by kernel_rfl) (by kernel_rfl) (by kernel_rfl) (fun _ _ _ h => h) (Or.inl ⟨by rfl, fun w hSw => by go_simp⟩) (by assumption) ?_
  try simp only [Act.put, List.setIfInBounds_toArray, List.set_cons_zero, List.set_cons_succ]
  refine wpAnyH_take (i := 1) (oi := { dst := some 30, op := Op.move (Operand.tmp 0), type := 62, pos := "disk.go:75", after := #[], guard := none }) (v := .pointer (some ⟨d, 0, none⟩)) rfl (by kernel_rfl) (by kernel_rfl) (by kernel_rfl) (fun _ _ _ h => h) (Or.inl ⟨by rfl, fun w hSw => by go_simp⟩) (by assumption) ?_
  try simp only [Act.put, List.setIfInBounds_toArray, List.set_cons_zero, List.set_cons_succ]
  refine wpAnyH_take (i := 2) (oi := { dst := some 31, op := Op.nilCheck (Operand.tmp 30), type := 0, pos := "disk.go:75", after := #[{ on := 1, ground := Ground.data }], guard := none }) (v := .pointer (some ⟨d, 0, none⟩)) rfl (by kernel_rfl) (by kernel_rfl) (by kernel_rfl) (fun _ _ _ h => h) (Or.inl ⟨by rfl, fun w hSw => by go_simp⟩) (by assumption) ?_
  try simp only [Act.put, List.setIfInBounds_toArray, List.set_cons_zero, List.set_cons_succ]
  refine wpAnyH_take (i := 3) (oi := { dst := some 32, op := Op.fieldAddr 88 (Operand.tmp 31) 1, type := 0, pos := "disk.go:75", after := #[{ on := 2, ground := Ground.data }], guard := none }) (v := .pointer (some ⟨d, 1, none⟩)) rfl (by kernel_rfl) (by kernel_rfl) (by kernel_rfl) (fun _ _ _ h => h) (Or.inl ⟨by rfl, fun w hSw => by go_simp⟩) (by assumption) ?_
  try simp only [Act.put, List.setIfInBounds_toArray, List.set_cons_zero, List.set_cons_succ]
  refine wpAnyH_take (i := 5) (oi := { dst := some 34, op := Op.move (Operand.tmp 1), type := 3, pos := "disk.go:75", after := #[], guard := none }) (v := .int .i64 i) rfl (by kernel_rfl) (by kernel_rfl) (by kernel_rfl) (fun _ _ _ h => h) (Or.inl ⟨by rfl, fun w hSw => by go_simp⟩) (by assumption) ?_
  try simp only [Act.put, List.setIfInBounds_toArray, List.set_cons_zero, List.set_cons_succ]
  refine wpAnyH_take (i := 6) (oi := { dst := some 35, op := Op.move (Operand.tmp 2), type := 23, pos := "disk.go:75", after := #[], guard := none }) (v := .slice (some ⟨A, o, none⟩) 64 c) rfl (by kernel_rfl) (by kernel_rfl) (by kernel_rfl) (fun _ _ _ h => h) (Or.inl ⟨by rfl, fun w hSw => by go_simp⟩) (by assumption) ?_
  try simp only [Act.put, List.setIfInBounds_toArray, List.set_cons_zero, List.set_cons_succ]
  refine wpAnyH_take (i := 7) (oi := { dst := some 36, op := Op.sliceToArrayPointer 90 (Operand.tmp 35), type := 0, pos := "disk.go:75", after := #[{ on := 6, ground := Ground.data }], guard := none }) (v := .pointer (some ⟨A, o, none⟩)) rfl (by kernel_rfl) (by kernel_rfl) (by kernel_rfl) (fun _ _ _ h => h) (Or.inl ⟨by rfl, fun w hSw => by go_simp⟩) (by assumption) ?_
  try simp only [Act.put, List.setIfInBounds_toArray, List.set_cons_zero, List.set_cons_succ]
  refine wpAnyH_take (i := 8) (oi := { dst := some 37, op := Op.load 90 (Operand.tmp 36), type := 90, pos := "disk.go:75", after := #[{ on := 7, ground := Ground.data }], guard := none }) (v := .agg cs.toArray) rfl (by kernel_rfl) (by kernel_rfl) (by kernel_rfl) (fun _ _ _ h => h) (yieldsIf_load_mid (by rfl) _ _ rfl A o rfl cs _ (fun w hSw => hSw) hun rfl hsz) (by assumption) ?_
  try simp only [Act.put, List.setIfInBounds_toArray, List.set_cons_zero, List.set_cons_succ]
  refine wpAnyH_take (i := 9) (oi := { dst := some 38, op := Op.build 283 #[(0, Operand.tmp 34), (1, Operand.tmp 37)], type := 283, pos := "disk.go:75", after := #[{ on := 5, ground := Ground.data }, { on := 8, ground := Ground.data }], guard := none }) (v := BV) rfl (by kernel_rfl) (by kernel_rfl) (by kernel_rfl) (fun _ _ _ h => h) (Or.inl ⟨by rfl, fun w hSw => by go_simp⟩) (by assumption) ?_
  try simp only [Act.put, List.setIfInBounds_toArray, List.set_cons_zero, List.set_cons_succ]
  refine wpAnyH_ready (rs := [4, 10]) (by kernel_rfl) (by simp) ?_
  refine AllReadyH.cons (o := { dst := some 33, op := Op.load 85 (Operand.tmp 32), type := 85, pos := "disk.go:75", after := #[{ on := 3, ground := Ground.data }], guard := none }) rfl (fun K hK => ?_) (AllReadyH.cons (o := { dst := some 39, op := Op.buildSlice 85 1 #[(0, Operand.tmp 38)], type := 85, pos := "disk.go:75", after := #[{ on := 9, ground := Ground.data }], guard := none }) rfl (fun K hK => ?_) AllReadyH.nil)
  go_simp
  refine hK.out _ _ (by first | exact hS0 | exact World.rangeAt_alloc hS0 _ | exact k2 | exact k3) (fun _ => ?_)
  clear hK K
  try simp only [Act.put, List.setIfInBounds_toArray, List.set_cons_zero, List.set_cons_succ]
  refine wpAnyH_ready (rs := [10]) (by kernel_rfl) (by simp) ?_
  refine AllReadyH.cons (o := { dst := some 39, op := Op.buildSlice 85 1 #[(0, Operand.tmp 38)], type := 85, pos := "disk.go:75", after := #[{ on := 9, ground := Ground.data }], guard := none }) rfl (fun K hK => ?_) AllReadyH.nil
  go_simp
  refine hK.out _ _ (by first | exact hS0 | exact World.rangeAt_alloc hS0 _ | exact k2 | exact k3) (fun _ => ?_)
  clear hK K
  try simp only [Act.put, List.setIfInBounds_toArray, List.set_cons_zero, List.set_cons_succ]
  rotate_left
  go_simp
  refine hK.out _ _ (by first | exact hS0 | exact World.rangeAt_alloc hS0 _ | exact k2 | exact k3) (fun _ => ?_)
  clear hK K
  try simp only [Act.put, List.setIfInBounds_toArray, List.set_cons_zero, List.set_cons_succ]
  refine wpAnyH_ready (rs := [4]) (by kernel_rfl) (by simp) ?_
  refine AllReadyH.cons (o := { dst := some 33, op := Op.load 85 (Operand.tmp 32), type := 85, pos := "disk.go:75", after := #[{ on := 3, ground := Ground.data }], guard := none }) rfl (fun K hK => ?_) AllReadyH.nil
  go_simp
  refine hK.out _ _ (by first | exact hS0 | exact World.rangeAt_alloc hS0 _ | exact k2 | exact k3) (fun _ => ?_)
  clear hK K
  try simp only [Act.put, List.setIfInBounds_toArray, List.set_cons_zero, List.set_cons_succ]
  all_goals
    refine wpAnyH_ready (rs := [11]) (by kernel_rfl) (by simp) ?_
    refine AllReadyH.cons (o := { dst := some 40, op := Op.call { callee := Callee.builtin Builtin.append, args := #[Operand.tmp 33, Operand.tmp 39], argTypes := #[85, 85] }, type := 85, pos := "disk.go:75", after := #[{ on := 4, ground := Ground.data }, { on := 10, ground := Ground.data }], guard := none }) rfl (fun K hK => ?_) AllReadyH.nil
    refine step_append_lies _ rfl _ _ 85 rfl 0 283 ie z 65 72 Tryz.underlying85 hie hze hisz hib hzs (by decide) rv k _ rfl (HW.out.1.drew.alloc _) ⟨w.heap.size, 0, none⟩ 1 1 (Value.int .i64 i :: cs) rfl (by rw [List.length_cons, hl64]) (World.news_of_block (heap_alloc_new _ _)) (List.forall_mem_cons.2 ⟨rfl, hone⟩) (by decide) (by simp [maxLen]; omega) (by omega) (Nat.zero_le _) _ rfl (fun g cap w2 q1 q2 q3 q4 => ?_)
    have k2 : w2.rangeAt A o cs := range_grown (World.rangeAt_alloc hS0 _) q2 hA (by simp; omega)
    have hb2 := (q2.block d (by simp; omega) (fun e => hne.2 e.symm)).trans ((heap_alloc_old w.drew _ hdl).trans hblk)
    have m1 := (cellD hb2 1).1
    have m1f := (cellD hb2 1).2
    have k3 : (w2.setCell ⟨d, 1, none⟩ (.slice (some ⟨g, 0, none⟩) (k + 1) cap)).rangeAt A o cs := range_grown k2 (set_grown _ _ _) (fun e => hAd (Option.some.inj e).symm) (Nat.lt_of_lt_of_le hAl (Nat.le_trans (by simp) q2.size))
    skip
    refine hK.out _ _ (by first | exact hS0 | exact World.rangeAt_alloc hS0 _ | exact k2 | exact k3) (fun _ => ?_)
    clear hK K
    try simp only [Act.put, List.setIfInBounds_toArray, List.set_cons_zero, List.set_cons_succ]
    refine wpAnyH_take (i := 12) (oi := { dst := some 41, op := Op.nilCheck (Operand.tmp 29), type := 0, pos := "disk.go:75", after := #[{ on := 0, ground := Ground.data }, { on := 0, ground := Ground.phase }, { on := 1, ground := Ground.phase }, { on := 2, ground := Ground.phase }, { on := 3, ground := Ground.phase }, { on := 4, ground := Ground.phase }, { on := 5, ground := Ground.phase }, { on := 6, ground := Ground.phase }, { on := 7, ground := Ground.phase }, { on := 8, ground := Ground.phase }, { on := 9, ground := Ground.phase }, { on := 10, ground := Ground.phase }, { on := 11, ground := Ground.phase }], guard := none }) (v := .pointer (some ⟨d, 0, none⟩)) rfl (by kernel_rfl) (by kernel_rfl) (by kernel_rfl) (fun _ _ _ h => h) (Or.inl ⟨by rfl, fun w hSw => by go_simp⟩) (by assumption) ?_
    try simp only [Act.put, List.setIfInBounds_toArray, List.set_cons_zero, List.set_cons_succ]
    refine wpAnyH_take (i := 13) (oi := { dst := some 42, op := Op.fieldAddr 88 (Operand.tmp 41) 1, type := 0, pos := "disk.go:75", after := #[{ on := 12, ground := Ground.data }, { on := 0, ground := Ground.phase }, { on := 1, ground := Ground.phase }, { on := 2, ground := Ground.phase }, { on := 3, ground := Ground.phase }, { on := 4, ground := Ground.phase }, { on := 5, ground := Ground.phase }, { on := 6, ground := Ground.phase }, { on := 7, ground := Ground.phase }, { on := 8, ground := Ground.phase }, { on := 9, ground := Ground.phase }, { on := 10, ground := Ground.phase }, { on := 11, ground := Ground.phase }], guard := none }) (v := .pointer (some ⟨d, 1, none⟩)) rfl (by kernel_rfl) (by kernel_rfl) (by kernel_rfl) (fun _ _ _ h => h) (Or.inl ⟨by rfl, fun w hSw => by go_simp⟩) (by assumption) ?_
    try simp only [Act.put, List.setIfInBounds_toArray, List.set_cons_zero, List.set_cons_succ]
    refine wpAnyH_ready (rs := [14]) (by kernel_rfl) (by simp) ?_
    refine AllReadyH.cons (o := { dst := none, op := Op.store 85 (Operand.tmp 42) (Operand.tmp 40), type := 0, pos := "disk.go:75", after := #[{ on := 13, ground := Ground.data }, { on := 11, ground := Ground.data }, { on := 11, ground := Ground.chain }, { on := 0, ground := Ground.phase }, { on := 1, ground := Ground.phase }, { on := 2, ground := Ground.phase }, { on := 3, ground := Ground.phase }, { on := 4, ground := Ground.phase }, { on := 5, ground := Ground.phase }, { on := 6, ground := Ground.phase }, { on := 7, ground := Ground.phase }, { on := 8, ground := Ground.phase }, { on := 9, ground := Ground.phase }, { on := 10, ground := Ground.phase }, { on := 11, ground := Ground.phase }], guard := none }) rfl (fun K hK => ?_) AllReadyH.nil
    go_simp
    refine hK.out _ _ (by first | exact hS0 | exact World.rangeAt_alloc hS0 _ | exact k2 | exact k3) (fun _ => ?_)
    clear hK K
    try simp only [Act.put, List.setIfInBounds_toArray, List.set_cons_zero, List.set_cons_succ]
    refine wpAnyH_done (by kernel_rfl) ?_ _
    have m4 := (cellD hb2 4).1
    have m4f := (cellD hb2 4).2
    have m3 := (cellD hb2 3).1
    have m3f := (cellD hb2 3).2
    go_wp2
    go_region
    all_goals go_wp2
    go_ret
    obtain ⟨rv', r1, r2, r3⟩ := write_fin HD.out hk hi HS.out.1 HW.out.2 HW.out.1.1 _ q1 q2 q3 hb2 (wrap64 (c0 + 1)) (wrap64 (lf - 1))
    exact ⟨rv', rfl, r1, r2, r3⟩
end Go.Proofs.YtokflmiijdpchaaGreat
