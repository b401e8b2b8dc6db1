/- The walk of the document's Clean. -/
import Derived.Test.YtplfmpcoojkjlaaDoorK52
import Derived.Deep.RegionLaw
import Derived.Deep.RegionWith
import Derived.StillTailTactics
namespace Go.Proofs.YtplfmpcoojkjlaaDoor
open Go.RowKit Go.Proofs.YtplfmpcoojkjlaaDoorW.PrintWords
theorem infoP : (Tryd.prog.info? 69).map (fun i => (i.zero, i.size, i.bytes)) = some (some (.agg #[.int .i64 0, .bool false, .int .i64 0, .int .u64 0, .int .u64 0, .slice none 0 0, .slice none 0 0]), 7, 88) := by kernel_rfl
theorem LT.cells_oneP (l : LT PS) : ∀ u ∈ l.cells PS.enc, u.oneCell' = true := by
  intro u hu
  simp only [LT.cells, PS.enc, List.cons_append, List.nil_append, List.mem_cons, List.not_mem_nil, or_false] at hu
  rcases hu with rfl | rfl | rfl | rfl | rfl | rfl | rfl <;> rfl
/-- append(row, v): the row of the call's own, v made. -/
theorem app_nodeP {ops : Array Oper} {rest : List Oper} {o : Oper} {a : Act} {Q : Exit → Act → World → Prop} {W : World} (hgd : o.guard = none) (s x : Operand)
    (ho : o.op = .call { callee := .builtin .append, args := #[s, x], argTypes := #[22, 22] }) (B : Nat) (h : Hdr) (ls : List (LT PS)) (l : LT PS) (cs : Array Value) (hcs : cs = (l.cells PS.enc).toArray)
    (hs : a.eval s = .slice h.A ls.length h.cap) (N : Nat) (hx : a.eval x = .slice (some ⟨N, 0, none⟩) 1 1) (hN : N = W.heap.size) (own : OwnL PS.enc 5 69 W h ls) (lown : l.Own PS.enc 5 69 W)
    (hnd : ((h.ids ++ LT.idss ls) ++ l.ids).Nodup) (hge : ∀ k ∈ (h.ids ++ LT.idss ls) ++ l.ids, B ≤ k) (hl : ls.length < 1099511627777) (hB : B ≤ W.heap.size)
    (hk : ∀ (h1 : Hdr) w1, OwnL PS.enc 5 69 w1 h1 (ls ++ [l]) → (h1.ids ++ LT.idss (ls ++ [l])).Nodup → (∀ k ∈ h1.ids ++ LT.idss (ls ++ [l]), B ≤ k) → Below B W w1 → wpList Tryd.prog ops Q rest (a.put o.dst (.slice h1.A (ls.length + 1) h1.cap)) w1) :
    wpList Tryd.prog ops Q (o :: rest) a (W.alloc (.cells cs 69)) := by
  subst hcs
  subst hN
  refine print_append_cells (w0 := W) 0 hgd s x 22 69 _ 7 88 ho Tryd.underlying22 infoP rfl (by decide) (by decide) (.slice h.A ls.length h.cap) ls.length (rowCells PS.enc ls) (l.cells PS.enc) hs hx (LT.cells_length PS.enc5 l) l.cells_oneP own.row (Below.refl 0 W) (Nat.zero_le _) (by omega) ?_
  intro v1 w1 hown _ hg hat
  obtain ⟨A1, c1, rfl⟩ := own_slice hown
  have hrow : w1.ownsRow 0 69 7 (.slice A1 (ls ++ [l]).length c1) (ls ++ [l]).length (rowCells PS.enc (ls ++ [l])) := by
    rw [rowCells_append, rowCells_one, List.length_append]; exact hown
  have hown1 : (Value.slice A1 (ls.length + 1) c1).ownBlock = A1.map (·.block) := by cases A1 <;> rfl
  have hownh : (Value.slice h.A ls.length h.cap).ownBlock = h.A.map (·.block) := by cases h.A <;> rfl
  have hids : ∀ k ∈ (Hdr.mk A1 c1).ids, (k ∈ h.ids) ∨ W.heap.size ≤ k := by
    intro k hk
    have hk' : A1.map (·.block) = some k := by cases A1 <;> simp [Hdr.ids] at hk; simp [hk]
    rcases hat with e | ⟨b, e, hle⟩
    · left
      rw [hown1, hownh, hk'] at e
      cases hA : h.A with
      | none => simp [hA] at e
      | some a => simp [hA] at e; simp [Hdr.ids, hA, e]
    · right
      rw [hown1, hk'] at e
      injection e with e
      omega
  have hin : ∀ k ∈ LT.idss ls ++ l.ids, k < W.heap.size ∧ k ∉ h.ids := by
    intro k hk
    constructor
    · rcases List.mem_append.1 hk with hk | hk
      · exact own.lt k (List.mem_append_right _ hk)
      · exact lown.lt k hk
    · intro hh
      rw [List.append_assoc] at hnd
      exact (List.nodup_append.1 hnd).2.2 k hh k hk rfl
  have hmove : ∀ k ∈ LT.idss ls ++ l.ids, w1.heap[k]? = W.heap[k]? := by
    intro k hk
    refine hg.block k (hin k hk).1 (fun e => (hin k hk).2 ?_)
    rw [hownh] at e
    cases hA : h.A with
    | none => simp [hA] at e
    | some a => simp [hA] at e; simp [Hdr.ids, hA, e]
  have hidl : LT.idss (ls ++ [l]) = LT.idss ls ++ l.ids := by simp [LT.idss_flat]
  refine hk ⟨A1, c1⟩ w1 ⟨hrow, fun p hp => ?_⟩ ?_ ?_ ?_
  · rcases List.mem_append.1 hp with hp | hp
    · exact (own.all p hp).move fun i hi => hmove i (List.mem_append_left _ (LT.ids_mem hp hi))
    · rw [List.mem_singleton.1 hp]
      exact lown.move fun i hi => hmove i (List.mem_append_right _ hi)
  · rw [hidl]
    have h2 : (LT.idss ls ++ l.ids).Nodup := by rw [List.append_assoc] at hnd; exact (List.nodup_append.1 hnd).2.1
    refine List.nodup_append.2 ⟨by cases A1 <;> simp [Hdr.ids], h2, ?_⟩
    intro k hk k' hk' e
    subst e
    rcases hids k hk with h3 | h3
    · exact (hin k hk').2 h3
    · have := (hin k hk').1; omega
  · rw [hidl]
    intro k hk
    rcases List.mem_append.1 hk with hk | hk
    · rcases hids k hk with h3 | h3
      · exact hge k (List.mem_append_left _ (List.mem_append_left _ h3))
      · omega
    · exact hge k (by rw [List.append_assoc]; exact List.mem_append_right _ hk)
  · exact ⟨hg.os, hg.tape, hg.output, hg.size, fun k hk => hg.block k (by omega) (fun e => by
      rw [hownh] at e
      cases hA : h.A with
      | none => simp [hA] at e
      | some a =>
        simp [hA] at e
        have := hge k (List.mem_append_left _ (List.mem_append_left _ (by simp [Hdr.ids, hA, e])))
        omega)⟩

abbrev OwnP (w : World) (h : Hdr) (ls : List (LT PS)) : Prop := OwnL PS.enc 5 69 w h ls
theorem LT.Own.belowP {t8 tn : TypeId} {w w' : World} {l : LT PS} (k : l.Own PS.enc t8 tn w) (hb : Below w.heap.size w w') : l.Own PS.enc t8 tn w' := k.move fun i hi => hb.block i (k.lt i hi)
theorem OwnL.belowP {t8 tn : TypeId} {w w' : World} {h : Hdr} {ls : List (LT PS)} (k : OwnL PS.enc t8 tn w h ls) (hb : Below w.heap.size w w') : OwnL PS.enc t8 tn w' h ls := k.move fun i hi => hb.block i (k.lt i (List.mem_append.2 hi))
theorem clnL_app : ∀ (ps qs : List (TT PS)), clnL (ps ++ qs) = clnL ps ++ clnL qs
  | [], qs => rfl
  | p :: ps, qs => by simp [clnL, clnL_app ps qs]
/-- Where the walk of Clean stands before a part is put behind the row. -/
structure Cx (w w3 : World) (N : Nat) (h : Hdr) (ls : List (LT PS)) (l : LT PS) : Prop where
  own : OwnP w3 h ls
  low : l.Own PS.enc 5 69 w3
  nd : ((h.ids ++ LT.idss ls) ++ l.ids).Nodup
  ge : ∀ k ∈ (h.ids ++ LT.idss ls) ++ l.ids, w.heap.size ≤ k
  blk : w3.heap[N]? = some (.cells (l.cells PS.enc).toArray 69 (0, 0))
  below : Below w.heap.size w w3
/-- What the walk of Clean keeps at a round's head. -/
structure Cr (w wr : World) (h : Hdr) (ls : List (LT PS)) : Prop where
  own : OwnP wr h ls
  nd : (h.ids ++ LT.idss ls).Nodup
  ge : ∀ k ∈ h.ids ++ LT.idss ls, w.heap.size ≤ k
  below : Below w.heap.size w wr
theorem Cx.tree {w wr w3 : World} {h : Hdr} {ls : List (LT PS)} {l : LT PS} (hc : Cr w wr h ls) (hb : Below wr.heap.size wr w3) (hlow : l.Own PS.enc 5 69 w3) (hnd : l.ids.Nodup) (hge : ∀ k ∈ l.ids, wr.heap.size ≤ k)
    (hblk : w3.heap[wr.heap.size]? = some (.cells (l.cells PS.enc).toArray 69 (0, 0))) : Cx w w3 wr.heap.size h ls l := by
  refine ⟨hc.own.belowP hb, hlow, List.nodup_append.2 ⟨hc.nd, hnd, fun x hx y hy e => ?_⟩, fun k hk => ?_, hblk, hc.below.trans (hb.mono hc.below.size)⟩
  · have := hc.own.lt x hx
    have := hge y hy
    omega
  · rcases List.mem_append.1 hk with hk | hk
    · exact hc.ge k hk
    · exact Nat.le_trans hc.below.size (hge k hk)
theorem plain_own (w : World) (s : PS) : (LT.mk s ⟨none, 0⟩ [] ⟨none, 0⟩ []).Own PS.enc 5 69 w := .mk ⟨rfl, .inl ⟨rfl, rfl⟩⟩ ⟨rfl, .inl ⟨rfl, rfl⟩⟩ (fun p hp => by cases hp)
theorem Cx.plain {w wr w3 : World} {h : Hdr} {ls : List (LT PS)} (hc : Cr w wr h ls) (hb : Below wr.heap.size wr w3) (s : PS)
    (hblk : w3.heap[wr.heap.size]? = some (.cells ((LT.mk s ⟨none, 0⟩ [] ⟨none, 0⟩ []).cells PS.enc).toArray 69 (0, 0))) : Cx w w3 wr.heap.size h ls (.mk s ⟨none, 0⟩ [] ⟨none, 0⟩ []) :=
  Cx.tree hc hb (plain_own _ _) (by simp [LT.ids, LT.idss, Hdr.ids]) (fun k hk => by simp [LT.ids, LT.idss, Hdr.ids] at hk) hblk
set_option maxRecDepth 100000 in
/-- append(v, ys...) as one step of a region that draws. -/
theorem step_text {ops : Array Oper} {o : Oper} {a : Act} {W : World} {K : Act → World → Prop} {Q : Exit → Act → World → Prop} {E : Prop} (hgd : o.guard = none) (s x : Operand)
    (ho : o.op = .call { callee := .builtin .append, args := #[s, x], argTypes := #[24, 24] }) (base : Nat) (v : Value) (acc ys : List Int) (A : Option Addr) (m c : Nat)
    (hs : a.eval s = v) (hx : a.eval x = .slice A m c) (hm : m = ys.length) (own : OwnB W base v acc) (hr : Row W A (nums8 ys)) (hl : acc.length + ys.length ≤ 140737488355328) (hbase : base ≤ W.heap.size)
    (h : ∀ v1 w1, OwnB w1 base v1 (acc ++ ys) → Below base W w1 → Kp W w1 v v1 → K (a.put o.dst v1) w1) :
    if Region.wanted o (yielded ops a.tmps) = true then Oper.wp Tryd.prog o a W K Q else E := by
  have hw : Region.wanted o (yielded ops a.tmps) = true := by simp [Region.wanted, hgd]
  rw [if_pos hw]
  subst hm
  obtain ⟨i0, hi, hz0, hz1, hz2⟩ := info_parts info5
  have ht := Tryd.underlying24
  have hrun : ∃ v1 w1, (Builtin.append_ #[24, 24] o.type #[v, .slice A ys.length c]).run Tryd.prog W = .ok v1 w1 ∧ W.grownBy w1 v.ownBlock ∧ OwnB w1 base v1 (acc ++ ys) ∧ (v1.ownBlock = v.ownBlock ∨ v1.ownBlock = some W.heap.size) := by
    rcases A with _ | ad
    · have h0 : ys = [] := by
        rcases hr with h0 | ⟨b, o, h0, _⟩
        · simpa [nums8] using h0
        · cases h0
      subst h0
      refine ⟨v, W, ?_, World.grownBy.refl W _, by simpa using own, .inl rfl⟩
      rcases own.2 with ⟨rfl, hn⟩ | ⟨g, cap, cur, rfl, _, _, hnc, _⟩
      · simp [Builtin.append_, run_underlying ht, sizeOf, typeInfo, hi, Builtin.lenOf, Builtin.firstCells]
      · simp [Builtin.append_, run_underlying ht, sizeOf, typeInfo, hi, Builtin.lenOf, Builtin.firstCells, hnc, storeCells]
    · have hcells : ∀ j u, (nums8 ys)[j]? = some u → W.cell? (ad.add j) = some u := by
        intro j u hu
        rcases hr with h0 | ⟨b, o, h0, _, hc⟩
        · rw [h0] at hu; simp at hu
        · injection h0 with h0
          subst h0
          rw [add_plain0]
          exact hc j u hu
      obtain ⟨v1, w1, hr, h2, h3, _, h5⟩ := run_append_own_at (P := Tryd.prog) W base 24 o.type 5 i0 _ 1 1 ht hi hz0 hz1 hz2 rfl (by omega) v acc.length (nums8 acc) own ad ys.length c (nums8 ys) (by simp) hcells (nums8_one ys) (by simp only [maxLen]; omega) (by omega) hbase
      exact ⟨v1, w1, hr, h3, by unfold OwnB; rw [List.length_append, nums8_append]; exact h2, h5⟩
  obtain ⟨v1, w1, hr1, hg, hown, hat⟩ := hrun
  unfold Oper.wp
  simp only [execOp, ho, resolve, invoke, builtin, Sem.run_bind, Sem.run_pure, Result.andThen_ok, List.map_toArray, List.map_cons, List.map_nil, hs, hx, hr1]
  exact h v1 w1 hown ((Below.refl base W).grown hg hbase (own_base own)) (kp_of hg (hat.imp id fun e => ⟨_, e, Nat.le_refl _⟩))
def ClnPost (w : World) (ps : List (TT PS)) (e : Ending) (w' : World) : Prop :=
  ∃ (h : Hdr) (ls : List (LT PS)), e = .returned (.slice h.A ls.length h.cap) ∧ LT.pures ls = clnL ps ∧ Cr w w' h ls
def ClnAt (n : Nat) : Prop := ∀ (w : World) (A : Option Addr) (c : Nat) (ms : List (LT PS)), LT.cnts ms ≤ n → RdL PS.enc w A ms → TT.alls PS.fits (LT.pures ms) → TT.wts (LT.pures ms) ≤ 1048576 →
  Calls Tryd.prog 27 #[.slice A ms.length c] w (ClnPost w (LT.pures ms))
set_option maxRecDepth 100000 in
set_option maxHeartbeats 8000000 in
theorem cln_of (n : Nat) (HI : ∀ m, m < n → ClnAt m) : ClnAt n := by
  intro w A c ms hcnt hA hp hw
  have hml : ms.length ≤ 9223372036854775807 := hA.len
  have hmw := TT.wts_len (LT.pures ms)
  rw [LT.pures_length] at hmw
  have HREC := Lib.hid HI
  have H0 := Lib.hid (show _ ∧ _ ∧ _ ∧ _ ∧ _ from ⟨hcnt, hA, hp, hw, hmw⟩)
  clear HI hcnt hA hp hw hmw
  go_enter Tryd.func27, Tryd.ntmps27
  go_wp2
  go_loopw [3, 4] (fun vv vi wr => ∃ (k : Nat) (h : Hdr) (ls : List (LT PS)), k ≤ ms.length ∧ vi = .int .i64 k ∧ vv = .slice h.A k h.cap ∧ ls.length = k ∧ LT.pures ls = clnL ((LT.pures ms).take k) ∧ Cr w wr h ls) (fun _ vi _ => ms.length - (intOf vi).toNat)
  case atStart => exact ⟨0, ⟨none, 0⟩, [], by omega, rfl, rfl, rfl, rfl, ⟨⟨⟨rfl, .inl ⟨rfl, rfl⟩⟩, fun p hp => by cases hp⟩, by simp [Hdr.ids, LT.idss], by simp [Hdr.ids, LT.idss], Below.refl _ _⟩⟩
  case round =>
    obtain ⟨k, h, ls, hk, rfl, rfl, hlen, hpu, hcr⟩ := hrel
    have HW := Lib.hid (show _ ∧ _ ∧ _ from ⟨hlen, hpu, hcr⟩)
    clear hlen hpu hcr
    by_cases hlt : k < ms.length
    · obtain ⟨b, o, rfl, hblt, hcs, hrw⟩ := H0.out.2.1.get PS.enc5 k hlt
      have hlp : k < (LT.pures ms).length := by rw [LT.pures_length]; exact hlt
      have hel : (LT.pures ms)[k] = (ms[k]).pure := by simp [LT.pures_map]
      have hmem : (ms[k]).pure ∈ LT.pures ms := by rw [LT.pures_map]; exact List.mem_map_of_mem (List.getElem_mem hlt)
      have hsplit : clnL ((LT.pures ms).take (k + 1)) = clnL ((LT.pures ms).take k) ++ [clnT (ms[k]).pure] := by rw [List.take_succ_eq_append_getElem hlp, hel, clnL_app]; rfl
      have hfit : (ms[k]).pure.all PS.fits := TT.alls_mem H0.out.2.2.1 hmem
      have hwt : (ms[k]).pure.wt ≤ 1048576 := by have := TT.wt_mem hmem; have := H0.out.2.2.2.1; omega
      have hcp : LT.cnts (ms[k]).parts < n := by
        have h1 := LT.cnt_parts ms[k]
        have h2 := LT.cnt_mem (List.getElem_mem hlt)
        have := H0.out.1
        omega
      generalize ms[k] = m at *
      obtain ⟨⟨kd, bb, nn, re, im⟩, ⟨tA, tc⟩, tx, ph, ps⟩ := m
      simp only [LT.pure] at hfit hwt hsplit
      have hbw := HW.out.2.2.below
      have hc := fun j u hj hu => (hbw.cell (p := ⟨b, o + (k * 7 + j), none⟩) hblt).trans (hcs j u hj hu)
      have b0 : wr.cell? ⟨b, o + k * 7, none⟩ = some (.int .i64 kd) := rd_cell7 0 hc (by omega) rfl
      have hcell : ∀ w', Below w.heap.size w w' → ∀ j u, j < 7 → ((LT.mk (⟨kd, bb, nn, re, im⟩ : PS) ⟨tA, tc⟩ tx ph ps).cells PS.enc)[j]? = some u → w'.cell? ⟨b, o + k * 7 + j, none⟩ = some u := fun w' hb j u hj hu => by
        rw [Nat.add_assoc]
        exact (hb.cell (p := ⟨b, o + (k * 7 + j), none⟩) hblt).trans (hcs j u hj hu)
      have HX := Lib.hid (show _ ∧ _ ∧ _ ∧ _ ∧ _ ∧ _ from ⟨hrw, hfit, hwt, hcp, hsplit, hcell⟩)
      have hbx : b < wr.heap.size := Nat.lt_of_lt_of_le hblt hbw.size
      clear hc hcs hrw hfit hwt hcp hsplit hmem hel hlp hbw hblt hcell
      go_upto_region 6 with (fail)
      generalize hwx : wr.alloc _ = wx
      have hxb : wx.heap[wr.heap.size]? = some (.cells #[.int .i64 kd, .bool false, .int .i64 0, .int .u64 0, .int .u64 0, .slice none 0 0, .slice none 0 0] 69 (0, 0)) := by rw [← hwx]; exact blk_new wr _
      have hxw : Below wr.heap.size wr wx := by rw [← hwx]; exact (Below.refl _ _).alloc (Nat.le_refl _) _
      have hxs : wr.heap.size < wx.heap.size := (Array.getElem?_eq_some_iff.1 hxb).1
      have x0 : wx.cell? ⟨wr.heap.size, 0, none⟩ = some (.int .i64 kd) := (blk_cell hxb 0).trans rfl
      have x1 : wx.cell? ⟨wr.heap.size, 1, none⟩ = some (.bool false) := (blk_cell hxb 1).trans rfl
      have x2 : wx.cell? ⟨wr.heap.size, 2, none⟩ = some (.int .i64 0) := (blk_cell hxb 2).trans rfl
      have x3 : wx.cell? ⟨wr.heap.size, 3, none⟩ = some (.int .u64 0) := (blk_cell hxb 3).trans rfl
      have x4 : wx.cell? ⟨wr.heap.size, 4, none⟩ = some (.int .u64 0) := (blk_cell hxb 4).trans rfl
      have x5 : wx.cell? ⟨wr.heap.size, 5, none⟩ = some (.slice none 0 0) := (blk_cell hxb 5).trans rfl
      have x6 : wx.cell? ⟨wr.heap.size, 6, none⟩ = some (.slice none 0 0) := (blk_cell hxb 6).trans rfl
      have hxf := fun j => blk_frozen hxb j
      have hww : Below w.heap.size w wx := HW.out.2.2.below.trans (hxw.mono HW.out.2.2.below.size)
      have HWX := Lib.hid (show _ ∧ _ ∧ _ from ⟨hxb, hxw, hww⟩)
      clear hwx hxb hxw hww b0
      have hsr := HW.out.2.2.below.size
      have hlsk := HW.out.1
      have hkm := H0.out.2.2.2.2
      have hwm := H0.out.2.2.2.1
      by_cases h2 : kd = 2
      · subst h2
        have y1 : wx.cell? ⟨b, o + k * 7 + 1, none⟩ = some (.bool bb) := HX.out.2.2.2.2.2 _ HWX.out.2.2 1 _ (by omega) rfl
        go_upto_region 19 with (fail)
        generalize hw3 : wx.setCell _ _ = w3
        have hb3 : Below wr.heap.size wr w3 := by rw [← hw3]; exact HWX.out.2.1.setCell (p := ⟨wr.heap.size, 1, none⟩) (Nat.le_refl _) _
        have hk3 : w3.heap[wr.heap.size]? = some (.cells #[.int .i64 2, .bool bb, .int .i64 0, .int .u64 0, .int .u64 0, .slice none 0 0, .slice none 0 0] 69 (0, 0)) := by rw [← hw3]; exact blk_set HWX.out.1 1 _
        have H3 := Lib.hid (show _ ∧ _ from ⟨hb3, hk3⟩)
        clear hw3 hb3 hk3 y1 x0 x1 x2 x3 x4 x5 x6 hxf
        have HCX := Lib.hid (show Cx w w3 wr.heap.size h ls (LT.mk (⟨2, bb, 0, 0, 0⟩ : PS) ⟨none, 0⟩ [] ⟨none, 0⟩ []) from Cx.plain HW.out.2.2 H3.out.1 _ H3.out.2)
        have d0 : w3.cell? ⟨wr.heap.size, 0, none⟩ = some (.int .i64 2) := (blk_cell HCX.out.blk 0).trans rfl
        have d1 : w3.cell? ⟨wr.heap.size, 1, none⟩ = some (.bool bb) := (blk_cell HCX.out.blk 1).trans rfl
        have d2 : w3.cell? ⟨wr.heap.size, 2, none⟩ = some (.int .i64 0) := (blk_cell HCX.out.blk 2).trans rfl
        have d3 : w3.cell? ⟨wr.heap.size, 3, none⟩ = some (.int .u64 0) := (blk_cell HCX.out.blk 3).trans rfl
        have d4 : w3.cell? ⟨wr.heap.size, 4, none⟩ = some (.int .u64 0) := (blk_cell HCX.out.blk 4).trans rfl
        have d5 : w3.cell? ⟨wr.heap.size, 5, none⟩ = some (.slice (none) 0 0) := (blk_cell HCX.out.blk 5).trans rfl
        have d6 : w3.cell? ⟨wr.heap.size, 6, none⟩ = some (.slice none 0 0) := (blk_cell HCX.out.blk 6).trans rfl
        have hsz := HCX.out.below.size
        go_wp2_with (((with_reducible refine gate_dst (N := 84) rfl ?_); go_loud (refine app_nodeP rfl (.tmp 81) (.tmp 83) rfl w.heap.size h ls (LT.mk (⟨2, bb, 0, 0, 0⟩ : PS) ⟨none, 0⟩ [] ⟨none, 0⟩ []) _ rfl (by rw [hlsk]; rfl) w3.heap.size rfl rfl HCX.out.own HCX.out.low HCX.out.nd HCX.out.ge (by omega) hsz ?_); intro h1 w5 own5 nd5 ge5 hb5; have H5 := Lib.hid (show Cr w w5 h1 (ls ++ [(LT.mk (⟨2, bb, 0, 0, 0⟩ : PS) ⟨none, 0⟩ [] ⟨none, 0⟩ [])]) from ⟨own5, nd5, ge5, HCX.out.below.trans hb5⟩); clear own5 nd5 ge5 hb5))
        go_roundw
        case rel => exact ⟨k + 1, h1, _, by omega, by go_num, by first | rfl | rw [hlsk], by simp [hlsk], by rw [HX.out.2.2.2.2.1, LT.pures_map, List.map_append, ← LT.pures_map, HW.out.2.1]; simp [LT.pure, LT.pures, clnT, PS.cln], H5.out⟩
        case measure => simp [intOf]; omega
      have h2b : (kd == 2) = false := by simpa using h2
      by_cases h3 : kd = 3
      · subst h3
        have y1 : wx.cell? ⟨b, o + k * 7 + 2, none⟩ = some (.int .i64 nn) := HX.out.2.2.2.2.2 _ HWX.out.2.2 2 _ (by omega) rfl
        go_upto_region 19 with (fail)
        generalize hw3 : wx.setCell _ _ = w3
        have hb3 : Below wr.heap.size wr w3 := by rw [← hw3]; exact HWX.out.2.1.setCell (p := ⟨wr.heap.size, 2, none⟩) (Nat.le_refl _) _
        have hk3 : w3.heap[wr.heap.size]? = some (.cells #[.int .i64 3, .bool false, .int .i64 nn, .int .u64 0, .int .u64 0, .slice none 0 0, .slice none 0 0] 69 (0, 0)) := by rw [← hw3]; exact blk_set HWX.out.1 2 _
        have H3 := Lib.hid (show _ ∧ _ from ⟨hb3, hk3⟩)
        clear hw3 hb3 hk3 y1 x0 x1 x2 x3 x4 x5 x6 hxf
        have HCX := Lib.hid (show Cx w w3 wr.heap.size h ls (LT.mk (⟨3, false, nn, 0, 0⟩ : PS) ⟨none, 0⟩ [] ⟨none, 0⟩ []) from Cx.plain HW.out.2.2 H3.out.1 _ H3.out.2)
        have d0 : w3.cell? ⟨wr.heap.size, 0, none⟩ = some (.int .i64 3) := (blk_cell HCX.out.blk 0).trans rfl
        have d1 : w3.cell? ⟨wr.heap.size, 1, none⟩ = some (.bool false) := (blk_cell HCX.out.blk 1).trans rfl
        have d2 : w3.cell? ⟨wr.heap.size, 2, none⟩ = some (.int .i64 nn) := (blk_cell HCX.out.blk 2).trans rfl
        have d3 : w3.cell? ⟨wr.heap.size, 3, none⟩ = some (.int .u64 0) := (blk_cell HCX.out.blk 3).trans rfl
        have d4 : w3.cell? ⟨wr.heap.size, 4, none⟩ = some (.int .u64 0) := (blk_cell HCX.out.blk 4).trans rfl
        have d5 : w3.cell? ⟨wr.heap.size, 5, none⟩ = some (.slice (none) 0 0) := (blk_cell HCX.out.blk 5).trans rfl
        have d6 : w3.cell? ⟨wr.heap.size, 6, none⟩ = some (.slice none 0 0) := (blk_cell HCX.out.blk 6).trans rfl
        have hsz := HCX.out.below.size
        go_wp2_with (((with_reducible refine gate_dst (N := 84) rfl ?_); go_loud (refine app_nodeP rfl (.tmp 81) (.tmp 83) rfl w.heap.size h ls (LT.mk (⟨3, false, nn, 0, 0⟩ : PS) ⟨none, 0⟩ [] ⟨none, 0⟩ []) _ rfl (by rw [hlsk]; rfl) w3.heap.size rfl rfl HCX.out.own HCX.out.low HCX.out.nd HCX.out.ge (by omega) hsz ?_); intro h1 w5 own5 nd5 ge5 hb5; have H5 := Lib.hid (show Cr w w5 h1 (ls ++ [(LT.mk (⟨3, false, nn, 0, 0⟩ : PS) ⟨none, 0⟩ [] ⟨none, 0⟩ [])]) from ⟨own5, nd5, ge5, HCX.out.below.trans hb5⟩); clear own5 nd5 ge5 hb5))
        go_roundw
        case rel => exact ⟨k + 1, h1, _, by omega, by go_num, by first | rfl | rw [hlsk], by simp [hlsk], by rw [HX.out.2.2.2.2.1, LT.pures_map, List.map_append, ← LT.pures_map, HW.out.2.1]; simp [LT.pure, LT.pures, clnT, PS.cln], H5.out⟩
        case measure => simp [intOf]; omega
      have h3b : (kd == 3) = false := by simpa using h3
      by_cases h4 : kd = 4
      · subst h4
        have y1 : wx.cell? ⟨b, o + k * 7 + 3, none⟩ = some (.int .u64 re) := HX.out.2.2.2.2.2 _ HWX.out.2.2 3 _ (by omega) rfl
        have HT := Lib.hid (clean_calls wx re HX.out.2.1.1.1.1)
        generalize hcl : cleanB re = q at *
        have HCL := Lib.hid hcl
        clear hcl
        go_wp2_with fail
        refine HT.out.mono ?_
        rintro e w' ⟨rfl, hw'⟩
        rw [hw']
        clear hw' w'
        go_upto_region 19 with (fail)
        generalize hw3 : wx.setCell _ _ = w3
        have hb3 : Below wr.heap.size wr w3 := by rw [← hw3]; exact HWX.out.2.1.setCell (p := ⟨wr.heap.size, 3, none⟩) (Nat.le_refl _) _
        have hk3 : w3.heap[wr.heap.size]? = some (.cells #[.int .i64 4, .bool false, .int .i64 0, .int .u64 q, .int .u64 0, .slice none 0 0, .slice none 0 0] 69 (0, 0)) := by rw [← hw3]; exact blk_set HWX.out.1 3 _
        have H3 := Lib.hid (show _ ∧ _ from ⟨hb3, hk3⟩)
        clear hw3 hb3 hk3 y1 x0 x1 x2 x3 x4 x5 x6 hxf HT
        have HCX := Lib.hid (show Cx w w3 wr.heap.size h ls (LT.mk (⟨4, false, 0, q, 0⟩ : PS) ⟨none, 0⟩ [] ⟨none, 0⟩ []) from Cx.plain HW.out.2.2 H3.out.1 _ H3.out.2)
        have d0 : w3.cell? ⟨wr.heap.size, 0, none⟩ = some (.int .i64 4) := (blk_cell HCX.out.blk 0).trans rfl
        have d1 : w3.cell? ⟨wr.heap.size, 1, none⟩ = some (.bool false) := (blk_cell HCX.out.blk 1).trans rfl
        have d2 : w3.cell? ⟨wr.heap.size, 2, none⟩ = some (.int .i64 0) := (blk_cell HCX.out.blk 2).trans rfl
        have d3 : w3.cell? ⟨wr.heap.size, 3, none⟩ = some (.int .u64 ((q : Nat) : Int)) := (blk_cell HCX.out.blk 3).trans rfl
        have d4 : w3.cell? ⟨wr.heap.size, 4, none⟩ = some (.int .u64 0) := (blk_cell HCX.out.blk 4).trans rfl
        have d5 : w3.cell? ⟨wr.heap.size, 5, none⟩ = some (.slice (none) 0 0) := (blk_cell HCX.out.blk 5).trans rfl
        have d6 : w3.cell? ⟨wr.heap.size, 6, none⟩ = some (.slice none 0 0) := (blk_cell HCX.out.blk 6).trans rfl
        have hsz := HCX.out.below.size
        go_wp2_with (((with_reducible refine gate_dst (N := 84) rfl ?_); go_loud (refine app_nodeP rfl (.tmp 81) (.tmp 83) rfl w.heap.size h ls (LT.mk (⟨4, false, 0, q, 0⟩ : PS) ⟨none, 0⟩ [] ⟨none, 0⟩ []) _ rfl (by rw [hlsk]; rfl) w3.heap.size rfl rfl HCX.out.own HCX.out.low HCX.out.nd HCX.out.ge (by omega) hsz ?_); intro h1 w5 own5 nd5 ge5 hb5; have H5 := Lib.hid (show Cr w w5 h1 (ls ++ [(LT.mk (⟨4, false, 0, q, 0⟩ : PS) ⟨none, 0⟩ [] ⟨none, 0⟩ [])]) from ⟨own5, nd5, ge5, HCX.out.below.trans hb5⟩); clear own5 nd5 ge5 hb5))
        go_roundw
        case rel => exact ⟨k + 1, h1, _, by omega, by go_num, by first | rfl | rw [hlsk], by simp [hlsk], by rw [HX.out.2.2.2.2.1, LT.pures_map, List.map_append, ← LT.pures_map, HW.out.2.1]; simp [LT.pure, LT.pures, clnT, PS.cln, HCL.out], H5.out⟩
        case measure => simp [intOf]; omega
      have h4b : (kd == 4) = false := by simpa using h4
      by_cases h5 : kd = 5
      · subst h5
        have y1 : wx.cell? ⟨b, o + k * 7 + 3, none⟩ = some (.int .u64 re) := HX.out.2.2.2.2.2 _ HWX.out.2.2 3 _ (by omega) rfl
        have y2 : wx.cell? ⟨b, o + k * 7 + 4, none⟩ = some (.int .u64 im) := HX.out.2.2.2.2.2 _ HWX.out.2.2 4 _ (by omega) rfl
        have HT := Lib.hid (show _ ∧ _ from ⟨fun w => clean_calls w re HX.out.2.1.1.1.1, fun w => clean_calls w im HX.out.2.1.1.1.2.1⟩)
        generalize hcl : cleanB re = q at *
        generalize hcl2 : cleanB im = q2 at *
        have HCL := Lib.hid (show _ ∧ _ from ⟨hcl, hcl2⟩)
        clear hcl hcl2
        go_upto_region 14 with (fail)
        go_region_with (go_at_call 43; with_reducible first | (refine (HT.out.1 _).mono ?_; rintro e w' ⟨rfl, rfl⟩) | (refine (HT.out.2 _).mono ?_; rintro e w' ⟨rfl, rfl⟩))
        all_goals
          go_upto_region 19 with (fail)
          generalize hw3 : World.drew _ = w3
          have hb3 : Below wr.heap.size wr w3 := by rw [← hw3]; exact ((HWX.out.2.1.setCell (p := ⟨wr.heap.size, 3, none⟩) (Nat.le_refl _) _).setCell (p := ⟨wr.heap.size, 4, none⟩) (Nat.le_refl _) _).drew
          have hk3 : w3.heap[wr.heap.size]? = some (.cells #[.int .i64 5, .bool false, .int .i64 0, .int .u64 q, .int .u64 q2, .slice none 0 0, .slice none 0 0] 69 (0, 0)) := by rw [← hw3]; exact blk_set (blk_set HWX.out.1 3 _) 4 _
          have H3 := Lib.hid (show _ ∧ _ from ⟨hb3, hk3⟩)
          clear hw3 hb3 hk3 y1 y2 x0 x1 x2 x3 x4 x5 x6 hxf HT
          have HCX := Lib.hid (show Cx w w3 wr.heap.size h ls (LT.mk (⟨5, false, 0, q, q2⟩ : PS) ⟨none, 0⟩ [] ⟨none, 0⟩ []) from Cx.plain HW.out.2.2 H3.out.1 _ H3.out.2)
          have d0 : w3.cell? ⟨wr.heap.size, 0, none⟩ = some (.int .i64 5) := (blk_cell HCX.out.blk 0).trans rfl
          have d1 : w3.cell? ⟨wr.heap.size, 1, none⟩ = some (.bool false) := (blk_cell HCX.out.blk 1).trans rfl
          have d2 : w3.cell? ⟨wr.heap.size, 2, none⟩ = some (.int .i64 0) := (blk_cell HCX.out.blk 2).trans rfl
          have d3 : w3.cell? ⟨wr.heap.size, 3, none⟩ = some (.int .u64 ((q : Nat) : Int)) := (blk_cell HCX.out.blk 3).trans rfl
          have d4 : w3.cell? ⟨wr.heap.size, 4, none⟩ = some (.int .u64 ((q2 : Nat) : Int)) := (blk_cell HCX.out.blk 4).trans rfl
          have d5 : w3.cell? ⟨wr.heap.size, 5, none⟩ = some (.slice (none) 0 0) := (blk_cell HCX.out.blk 5).trans rfl
          have d6 : w3.cell? ⟨wr.heap.size, 6, none⟩ = some (.slice none 0 0) := (blk_cell HCX.out.blk 6).trans rfl
          have hsz := HCX.out.below.size
          go_wp2_with (((with_reducible refine gate_dst (N := 84) rfl ?_); go_loud (refine app_nodeP rfl (.tmp 81) (.tmp 83) rfl w.heap.size h ls (LT.mk (⟨5, false, 0, q, q2⟩ : PS) ⟨none, 0⟩ [] ⟨none, 0⟩ []) _ rfl (by rw [hlsk]; rfl) w3.heap.size rfl rfl HCX.out.own HCX.out.low HCX.out.nd HCX.out.ge (by omega) hsz ?_); intro h1 w5 own5 nd5 ge5 hb5; have H5 := Lib.hid (show Cr w w5 h1 (ls ++ [(LT.mk (⟨5, false, 0, q, q2⟩ : PS) ⟨none, 0⟩ [] ⟨none, 0⟩ [])]) from ⟨own5, nd5, ge5, HCX.out.below.trans hb5⟩); clear own5 nd5 ge5 hb5))
          go_roundw
          case rel => exact ⟨k + 1, h1, _, by omega, by go_num, by first | rfl | rw [hlsk], by simp [hlsk], by rw [HX.out.2.2.2.2.1, LT.pures_map, List.map_append, ← LT.pures_map, HW.out.2.1]; simp [LT.pure, LT.pures, clnT, PS.cln, HCL.out.1, HCL.out.2], H5.out⟩
          case measure => simp [intOf]; omega
      have h5b : (kd == 5) = false := by simpa using h5
      by_cases h6 : kd = 6
      · subst h6
        have y1 : wx.cell? ⟨b, o + k * 7 + 5, none⟩ = some (.slice tA tx.length tc) := HX.out.2.2.2.2.2 _ HWX.out.2.2 5 _ (by omega) rfl
        have htl : tx.length ≤ 67108928 := by have := HX.out.2.2.1; simp only [TT.wt] at this; omega
        have hrow : Row wx.drew tA (nums8 tx) := HX.out.1.textRow.below HWX.out.2.2.drew
        have hdr : Below wx.heap.size wx wx.drew := (Below.refl _ _).drew
        have HRW := Lib.hid (show _ ∧ _ ∧ _ from ⟨hrow, hdr, htl⟩)
        clear hrow hdr htl
        go_upto_region 16 with (fail)
        go_region_law (refine step_text rfl (.tmp 64) (.tmp 69) rfl wx.heap.size (.slice none 0 0) [] tx tA tx.length tc (by simp [Act.eval]) (by simp [Act.eval]) rfl (OwnB.nil _ _) HRW.out.1 (by have := HRW.out.2.2; simp; omega) (Nat.le_refl _) ?_; intro v2 w2 ho2 hb2 _; have hb2' := HRW.out.2.1.trans hb2; have hk2 := (hb2'.block wr.heap.size hxs).trans HWX.out.1; have z0 : w2.cell? ⟨wr.heap.size, 5, none⟩ = some (.slice none 0 0) := (blk_cell hk2 5).trans rfl; have hzf := fun j => blk_frozen hk2 j; obtain ⟨T2, tc2, rfl, _, _⟩ := ho2.row; have H2 := Lib.hid (show _ ∧ _ ∧ _ from ⟨ho2, hb2', hk2⟩); clear ho2 hb2 hb2' hk2)
        all_goals
          go_upto_region 19 with (fail)
          generalize hw3 : w2.setCell ⟨wr.heap.size, 5, none⟩ (.slice T2 tx.length tc2) = w3
          have hb2 : Below wr.heap.size wr w2 := HWX.out.2.1.trans (H2.out.2.1.mono (Nat.le_of_lt hxs))
          have hb3 : Below wr.heap.size wr w3 := by rw [← hw3]; exact hb2.setCell (p := ⟨wr.heap.size, 5, none⟩) (Nat.le_refl _) _
          have hk3 : w3.heap[wr.heap.size]? = some (.cells #[.int .i64 6, .bool false, .int .i64 0, .int .u64 0, .int .u64 0, .slice T2 tx.length tc2, .slice none 0 0] 69 (0, 0)) := by rw [← hw3]; exact blk_set H2.out.2.2 5 _
          have hge := H2.out.1.ge
          have ho3 : OwnB w3 wx.heap.size (.slice T2 tx.length tc2) tx := ownsRow_move H2.out.1 fun q hq => by
            rw [← hw3]
            refine Below.heap_setCell _ _ _ _ ?_
            have h1 := own_base H2.out.1 q hq
            show q ≠ wr.heap.size
            omega
          have hl3 : (LT.mk (⟨6, false, 0, 0, 0⟩ : PS) ⟨T2, tc2⟩ tx ⟨none, 0⟩ []).Own PS.enc 5 69 w3 := .mk (ho3.base (Nat.zero_le _)) ⟨rfl, .inl ⟨rfl, rfl⟩⟩ (fun p hp => by cases hp)
          have hl4 : (LT.mk (⟨6, false, 0, 0, 0⟩ : PS) ⟨T2, tc2⟩ tx ⟨none, 0⟩ []).ids.Nodup := by cases T2 <;> simp [LT.ids, LT.idss, Hdr.ids]
          have hl5 : ∀ q ∈ (LT.mk (⟨6, false, 0, 0, 0⟩ : PS) ⟨T2, tc2⟩ tx ⟨none, 0⟩ []).ids, wr.heap.size ≤ q := fun q hq => by
            cases T2 with
            | none => simp [LT.ids, LT.idss, Hdr.ids] at hq
            | some a =>
              have h1 : q = a.block := by simpa [LT.ids, LT.idss, Hdr.ids] using hq
              have h2 := (hge a rfl).1
              omega
          have H3 := Lib.hid (show _ ∧ _ ∧ _ ∧ _ ∧ _ from ⟨hb3, hk3, hl3, hl4, hl5⟩)
          clear hw3 hb3 hk3 hb2 hge ho3 hl3 hl4 hl5 z0 hzf y1 x0 x1 x2 x3 x4 x5 x6 hxf
          have HCX := Lib.hid (show Cx w w3 wr.heap.size h ls (LT.mk (⟨6, false, 0, 0, 0⟩ : PS) ⟨T2, tc2⟩ tx ⟨none, 0⟩ []) from Cx.tree HW.out.2.2 H3.out.1 H3.out.2.2.1 H3.out.2.2.2.1 H3.out.2.2.2.2 H3.out.2.1)
          have d0 : w3.cell? ⟨wr.heap.size, 0, none⟩ = some (.int .i64 6) := (blk_cell HCX.out.blk 0).trans rfl
          have d1 : w3.cell? ⟨wr.heap.size, 1, none⟩ = some (.bool false) := (blk_cell HCX.out.blk 1).trans rfl
          have d2 : w3.cell? ⟨wr.heap.size, 2, none⟩ = some (.int .i64 0) := (blk_cell HCX.out.blk 2).trans rfl
          have d3 : w3.cell? ⟨wr.heap.size, 3, none⟩ = some (.int .u64 0) := (blk_cell HCX.out.blk 3).trans rfl
          have d4 : w3.cell? ⟨wr.heap.size, 4, none⟩ = some (.int .u64 0) := (blk_cell HCX.out.blk 4).trans rfl
          have d5 : w3.cell? ⟨wr.heap.size, 5, none⟩ = some (.slice (T2) tx.length tc2) := (blk_cell HCX.out.blk 5).trans rfl
          have d6 : w3.cell? ⟨wr.heap.size, 6, none⟩ = some (.slice none 0 0) := (blk_cell HCX.out.blk 6).trans rfl
          have hsz := HCX.out.below.size
          go_wp2_with (((with_reducible refine gate_dst (N := 84) rfl ?_); go_loud (refine app_nodeP rfl (.tmp 81) (.tmp 83) rfl w.heap.size h ls (LT.mk (⟨6, false, 0, 0, 0⟩ : PS) ⟨T2, tc2⟩ tx ⟨none, 0⟩ []) _ rfl (by rw [hlsk]; rfl) w3.heap.size rfl rfl HCX.out.own HCX.out.low HCX.out.nd HCX.out.ge (by omega) hsz ?_); intro h1 w5 own5 nd5 ge5 hb5; have H5 := Lib.hid (show Cr w w5 h1 (ls ++ [(LT.mk (⟨6, false, 0, 0, 0⟩ : PS) ⟨T2, tc2⟩ tx ⟨none, 0⟩ [])]) from ⟨own5, nd5, ge5, HCX.out.below.trans hb5⟩); clear own5 nd5 ge5 hb5))
          go_roundw
          case rel => exact ⟨k + 1, h1, _, by omega, by go_num, by first | rfl | rw [hlsk], by simp [hlsk], by rw [HX.out.2.2.2.2.1, LT.pures_map, List.map_append, ← LT.pures_map, HW.out.2.1]; simp [LT.pure, LT.pures, clnT, PS.cln], H5.out⟩
          case measure => simp [intOf]; omega
      have h6b : (kd == 6) = false := by simpa using h6
      by_cases h7 : kd = 7
      · subst h7
        have y1 : wx.cell? ⟨b, o + k * 7 + 6, none⟩ = some (.slice ph.A ps.length ph.cap) := HX.out.2.2.2.2.2 _ HWX.out.2.2 6 _ (by omega) rfl
        have hwp : TT.wts (LT.pures ps) ≤ 1048576 := by have := HX.out.2.2.1; simp only [TT.wt] at this; omega
        have hcall := HREC.out (LT.cnts ps) HX.out.2.2.2.1 wx ph.A ph.cap ps (Nat.le_refl _) ((HX.out.1.keep HWX.out.2.2).parts) HX.out.2.1.2 hwp
        have HCA := Lib.hid hcall
        clear hcall hwp
        go_wp2_with fail
        refine HCA.out.mono ?_
        rintro e w2 ⟨h2, ls2, rfl, hp2, hc2⟩
        have hk2 := (hc2.below.block wr.heap.size hxs).trans HWX.out.1
        have z0 : w2.cell? ⟨wr.heap.size, 6, none⟩ = some (.slice none 0 0) := (blk_cell hk2 6).trans rfl
        have hzf := fun j => blk_frozen hk2 j
        have H2 := Lib.hid (show _ ∧ _ ∧ _ from ⟨hp2, hc2, hk2⟩)
        clear hp2 hc2 hk2 HCA
        go_upto_region 19 with (fail)
        generalize hw3 : w2.setCell _ _ = w3
        have hb2 : Below wr.heap.size wr w2 := HWX.out.2.1.trans (H2.out.2.1.below.mono (Nat.le_of_lt hxs))
        have hb3 : Below wr.heap.size wr w3 := by rw [← hw3]; exact hb2.setCell (p := ⟨wr.heap.size, 6, none⟩) (Nat.le_refl _) _
        have hk3 : w3.heap[wr.heap.size]? = some (.cells #[.int .i64 7, .bool false, .int .i64 0, .int .u64 0, .int .u64 0, .slice none 0 0, .slice h2.A ls2.length h2.cap] 69 (0, 0)) := by rw [← hw3]; exact blk_set H2.out.2.2 6 _
        have hge2 : ∀ q ∈ h2.ids ++ LT.idss ls2, wr.heap.size + 1 ≤ q := fun q hq => Nat.le_trans (Nat.succ_le_of_lt hxs) (H2.out.2.1.ge q hq)
        have ho3 : OwnP w3 h2 ls2 := H2.out.2.1.own.move fun q hq => by
          rw [← hw3]
          exact Below.heap_setCell _ _ _ _ (by have := hge2 q (List.mem_append.2 hq); show q ≠ wr.heap.size; omega)
        have hl3 : (LT.mk (⟨7, false, 0, 0, 0⟩ : PS) ⟨none, 0⟩ [] h2 ls2).Own PS.enc 5 69 w3 := .mk ⟨rfl, .inl ⟨rfl, rfl⟩⟩ ho3.row ho3.all
        have hl4 : (LT.mk (⟨7, false, 0, 0, 0⟩ : PS) ⟨none, 0⟩ [] h2 ls2).ids.Nodup := by simpa [LT.ids, Hdr.ids] using H2.out.2.1.nd
        have hl5 : ∀ q ∈ (LT.mk (⟨7, false, 0, 0, 0⟩ : PS) ⟨none, 0⟩ [] h2 ls2).ids, wr.heap.size ≤ q := fun q hq => by
          have := hge2 q (by simpa [LT.ids, Hdr.ids] using hq)
          omega
        have H3 := Lib.hid (show _ ∧ _ ∧ _ ∧ _ ∧ _ from ⟨hb3, hk3, hl3, hl4, hl5⟩)
        clear hw3 hb3 hk3 hb2 hge2 ho3 hl3 hl4 hl5 z0 hzf y1 x0 x1 x2 x3 x4 x5 x6 hxf
        have HCX := Lib.hid (show Cx w w3 wr.heap.size h ls (LT.mk (⟨7, false, 0, 0, 0⟩ : PS) ⟨none, 0⟩ [] h2 ls2) from Cx.tree HW.out.2.2 H3.out.1 H3.out.2.2.1 H3.out.2.2.2.1 H3.out.2.2.2.2 H3.out.2.1)
        have d0 : w3.cell? ⟨wr.heap.size, 0, none⟩ = some (.int .i64 7) := (blk_cell HCX.out.blk 0).trans rfl
        have d1 : w3.cell? ⟨wr.heap.size, 1, none⟩ = some (.bool false) := (blk_cell HCX.out.blk 1).trans rfl
        have d2 : w3.cell? ⟨wr.heap.size, 2, none⟩ = some (.int .i64 0) := (blk_cell HCX.out.blk 2).trans rfl
        have d3 : w3.cell? ⟨wr.heap.size, 3, none⟩ = some (.int .u64 0) := (blk_cell HCX.out.blk 3).trans rfl
        have d4 : w3.cell? ⟨wr.heap.size, 4, none⟩ = some (.int .u64 0) := (blk_cell HCX.out.blk 4).trans rfl
        have d5 : w3.cell? ⟨wr.heap.size, 5, none⟩ = some (.slice (none) 0 0) := (blk_cell HCX.out.blk 5).trans rfl
        have d6 : w3.cell? ⟨wr.heap.size, 6, none⟩ = some (.slice h2.A ls2.length h2.cap) := (blk_cell HCX.out.blk 6).trans rfl
        have hsz := HCX.out.below.size
        go_wp2_with (((with_reducible refine gate_dst (N := 84) rfl ?_); go_loud (refine app_nodeP rfl (.tmp 81) (.tmp 83) rfl w.heap.size h ls (LT.mk (⟨7, false, 0, 0, 0⟩ : PS) ⟨none, 0⟩ [] h2 ls2) _ rfl (by rw [hlsk]; rfl) w3.heap.size rfl rfl HCX.out.own HCX.out.low HCX.out.nd HCX.out.ge (by omega) hsz ?_); intro h1 w5 own5 nd5 ge5 hb5; have H5 := Lib.hid (show Cr w w5 h1 (ls ++ [(LT.mk (⟨7, false, 0, 0, 0⟩ : PS) ⟨none, 0⟩ [] h2 ls2)]) from ⟨own5, nd5, ge5, HCX.out.below.trans hb5⟩); clear own5 nd5 ge5 hb5))
        go_roundw
        case rel => exact ⟨k + 1, h1, _, by omega, by go_num, by first | rfl | rw [hlsk], by simp [hlsk], by rw [HX.out.2.2.2.2.1, LT.pures_map, List.map_append, ← LT.pures_map, HW.out.2.1]; simp [LT.pure, clnT, PS.cln, H2.out.1], H5.out⟩
        case measure => simp [intOf]; omega
      have h7b : (kd == 7) = false := by simpa using h7
      have hne : kd ≠ 2 ∧ kd ≠ 3 ∧ kd ≠ 4 ∧ kd ≠ 5 ∧ kd ≠ 6 ∧ kd ≠ 7 := ⟨h2, h3, h4, h5, h6, h7⟩
      have HNE := Lib.hid hne
      have H3 := Lib.hid (show Below wr.heap.size wr wx ∧ _ from ⟨HWX.out.2.1, HWX.out.1⟩)
      clear h2 h3 h4 h5 h6 h7 hne
      go_upto_region 19 with (fail)
      clear x0 x1 x2 x3 x4 x5 x6 hxf
      have HCX := Lib.hid (show Cx w wx wr.heap.size h ls (LT.mk (⟨kd, false, 0, 0, 0⟩ : PS) ⟨none, 0⟩ [] ⟨none, 0⟩ []) from Cx.plain HW.out.2.2 H3.out.1 _ H3.out.2)
      have d0 : wx.cell? ⟨wr.heap.size, 0, none⟩ = some (.int .i64 kd) := (blk_cell HCX.out.blk 0).trans rfl
      have d1 : wx.cell? ⟨wr.heap.size, 1, none⟩ = some (.bool false) := (blk_cell HCX.out.blk 1).trans rfl
      have d2 : wx.cell? ⟨wr.heap.size, 2, none⟩ = some (.int .i64 0) := (blk_cell HCX.out.blk 2).trans rfl
      have d3 : wx.cell? ⟨wr.heap.size, 3, none⟩ = some (.int .u64 0) := (blk_cell HCX.out.blk 3).trans rfl
      have d4 : wx.cell? ⟨wr.heap.size, 4, none⟩ = some (.int .u64 0) := (blk_cell HCX.out.blk 4).trans rfl
      have d5 : wx.cell? ⟨wr.heap.size, 5, none⟩ = some (.slice (none) 0 0) := (blk_cell HCX.out.blk 5).trans rfl
      have d6 : wx.cell? ⟨wr.heap.size, 6, none⟩ = some (.slice none 0 0) := (blk_cell HCX.out.blk 6).trans rfl
      have hsz := HCX.out.below.size
      go_wp2_with (((with_reducible refine gate_dst (N := 84) rfl ?_); go_loud (refine app_nodeP rfl (.tmp 81) (.tmp 83) rfl w.heap.size h ls (LT.mk (⟨kd, false, 0, 0, 0⟩ : PS) ⟨none, 0⟩ [] ⟨none, 0⟩ []) _ rfl (by rw [hlsk]; rfl) wx.heap.size rfl rfl HCX.out.own HCX.out.low HCX.out.nd HCX.out.ge (by omega) hsz ?_); intro h1 w5 own5 nd5 ge5 hb5; have H5 := Lib.hid (show Cr w w5 h1 (ls ++ [(LT.mk (⟨kd, false, 0, 0, 0⟩ : PS) ⟨none, 0⟩ [] ⟨none, 0⟩ [])]) from ⟨own5, nd5, ge5, HCX.out.below.trans hb5⟩); clear own5 nd5 ge5 hb5))
      go_roundw
      case rel => exact ⟨k + 1, h1, _, by omega, by go_num, by first | rfl | rw [hlsk], by simp [hlsk], by rw [HX.out.2.2.2.2.1, LT.pures_map, List.map_append, ← LT.pures_map, HW.out.2.1]; simp [LT.pure, LT.pures, clnT, PS.cln, HNE.out.1, HNE.out.2.1, HNE.out.2.2.1, HNE.out.2.2.2.1, HNE.out.2.2.2.2.1, HNE.out.2.2.2.2.2], H5.out⟩
      case measure => simp [intOf]; omega
    · go_wp2
      go_ret
      have hkm : k = ms.length := by omega
      have hall : (LT.pures ms).take k = LT.pures ms := List.take_of_length_le (by rw [LT.pures_length]; omega)
      have h3 := HW.out.2.1
      rw [hall] at h3
      exact ⟨h, ls, by rw [HW.out.1]; rfl, h3, HW.out.2.2⟩
theorem cln_all (n : Nat) : ClnAt n := by
  induction n using Nat.strongRecOn with
  | ind n ih => exact cln_of n ih
end Go.Proofs.YtplfmpcoojkjlaaDoor
