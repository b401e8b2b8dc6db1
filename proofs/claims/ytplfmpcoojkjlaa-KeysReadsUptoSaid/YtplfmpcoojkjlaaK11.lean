/- The document's reading of rows: row. -/
import Derived.Test.YtplfmpcoojkjlaaK10
import Derived.Test.YtplfmpcoojkjlaaK6
import Derived.Deep.DeepCutAuto
namespace Go.Proofs.Ytplfmpcoojkjlaa
open Go.RowKit Go.Proofs.YtplfmpcoojkjlaaW.PrintWords
theorem infoP : (Try.prog.info? 54).map (fun i => (i.zero, i.size, i.bytes)) = some (some (.agg #[.int .i64 0, .bool false, .int .i64 0, .int .u64 0, .int .u64 0, .slice none 0 0, .slice none 0 0]), 7, 88) := by kernel_rfl
theorem LT.cells_oneP (l : LT PS) : ∀ u ∈ l.cells PS.enc, u.oneCell' = true := by
  intro u hu
  simp only [LT.cells, PS.enc, List.cons_append, List.nil_append, List.mem_cons, List.not_mem_nil, or_false] at hu
  rcases hu with rfl | rfl | rfl | rfl | rfl | rfl | rfl <;> rfl
/-- append(row, v): the row of the call's own, v made. -/
theorem app_nodeP {ops : Array Oper} {rest : List Oper} {o : Oper} {a : Act} {Q : Exit → Act → World → Prop} {W : World} (hgd : o.guard = none) (s x : Operand)
    (ho : o.op = .call { callee := .builtin .append, args := #[s, x], argTypes := #[23, 23] }) (B : Nat) (h : Hdr) (ls : List (LT PS)) (l : LT PS) (cs : Array Value) (hcs : cs = (l.cells PS.enc).toArray)
    (hs : a.eval s = .slice h.A ls.length h.cap) (N : Nat) (hx : a.eval x = .slice (some ⟨N, 0, none⟩) 1 1) (hN : N = W.heap.size) (own : OwnL PS.enc 5 54 W h ls) (lown : l.Own PS.enc 5 54 W)
    (hnd : ((h.ids ++ LT.idss ls) ++ l.ids).Nodup) (hge : ∀ k ∈ (h.ids ++ LT.idss ls) ++ l.ids, B ≤ k) (hl : ls.length < 1099511627777) (hB : B ≤ W.heap.size)
    (hk : ∀ (h1 : Hdr) w1, OwnL PS.enc 5 54 w1 h1 (ls ++ [l]) → (h1.ids ++ LT.idss (ls ++ [l])).Nodup → (∀ k ∈ h1.ids ++ LT.idss (ls ++ [l]), B ≤ k) → Below B W w1 → wpList Try.prog ops Q rest (a.put o.dst (.slice h1.A (ls.length + 1) h1.cap)) w1) :
    wpList Try.prog ops Q (o :: rest) a (W.alloc (.cells cs 54)) := by
  subst hcs
  subst hN
  refine print_append_cells (w0 := W) 0 hgd s x 23 54 _ 7 88 ho Try.underlying23 infoP rfl (by decide) (by decide) (.slice h.A ls.length h.cap) ls.length (rowCells PS.enc ls) (l.cells PS.enc) hs hx (LT.cells_length PS.enc5 l) l.cells_oneP own.row (Below.refl 0 W) (Nat.zero_le _) (by omega) ?_
  intro v1 w1 hown _ hg hat
  obtain ⟨A1, c1, rfl⟩ := own_slice hown
  have hrow : w1.ownsRow 0 54 7 (.slice A1 (ls ++ [l]).length c1) (ls ++ [l]).length (rowCells PS.enc (ls ++ [l])) := by
    rw [rowCells_append, rowCells_one, List.length_append]; exact hown
  have hown1 : (Value.slice A1 (ls.length + 1) c1).ownBlock = A1.map (·.block) := by cases A1 <;> rfl
  have hownh : (Value.slice h.A ls.length h.cap).ownBlock = h.A.map (·.block) := by cases h.A <;> rfl
  have hids : ∀ k ∈ (Hdr.mk A1 c1).ids, (k ∈ h.ids) ∨ W.heap.size ≤ k := by
    intro k hk
    have hk' : A1.map (·.block) = some k := by cases A1 <;> simp [Hdr.ids] at hk; simp [hk]
    rcases hat with e | ⟨b, e, hle⟩
    · left
      rw [hown1, hownh, hk'] at e
      cases hA : h.A with
      | none => simp [hA] at e
      | some a => simp [hA] at e; simp [Hdr.ids, hA, e]
    · right
      rw [hown1, hk'] at e
      injection e with e
      omega
  have hin : ∀ k ∈ LT.idss ls ++ l.ids, k < W.heap.size ∧ k ∉ h.ids := by
    intro k hk
    constructor
    · rcases List.mem_append.1 hk with hk | hk
      · exact own.lt k (List.mem_append_right _ hk)
      · exact lown.lt k hk
    · intro hh
      rw [List.append_assoc] at hnd
      exact (List.nodup_append.1 hnd).2.2 k hh k hk rfl
  have hmove : ∀ k ∈ LT.idss ls ++ l.ids, w1.heap[k]? = W.heap[k]? := by
    intro k hk
    refine hg.block k (hin k hk).1 (fun e => (hin k hk).2 ?_)
    rw [hownh] at e
    cases hA : h.A with
    | none => simp [hA] at e
    | some a => simp [hA] at e; simp [Hdr.ids, hA, e]
  have hidl : LT.idss (ls ++ [l]) = LT.idss ls ++ l.ids := by simp [LT.idss_flat]
  refine hk ⟨A1, c1⟩ w1 ⟨hrow, fun p hp => ?_⟩ ?_ ?_ ?_
  · rcases List.mem_append.1 hp with hp | hp
    · exact (own.all p hp).move fun i hi => hmove i (List.mem_append_left _ (LT.ids_mem hp hi))
    · rw [List.mem_singleton.1 hp]
      exact lown.move fun i hi => hmove i (List.mem_append_right _ hi)
  · rw [hidl]
    have h2 : (LT.idss ls ++ l.ids).Nodup := by rw [List.append_assoc] at hnd; exact (List.nodup_append.1 hnd).2.1
    refine List.nodup_append.2 ⟨by cases A1 <;> simp [Hdr.ids], h2, ?_⟩
    intro k hk k' hk' e
    subst e
    rcases hids k hk with h3 | h3
    · exact (hin k hk').2 h3
    · have := (hin k hk').1; omega
  · rw [hidl]
    intro k hk
    rcases List.mem_append.1 hk with hk | hk
    · rcases hids k hk with h3 | h3
      · exact hge k (List.mem_append_left _ (List.mem_append_left _ h3))
      · omega
    · exact hge k (by rw [List.append_assoc]; exact List.mem_append_right _ hk)
  · exact ⟨hg.os, hg.tape, hg.output, hg.size, fun k hk => hg.block k (by omega) (fun e => by
      rw [hownh] at e
      cases hA : h.A with
      | none => simp [hA] at e
      | some a =>
        simp [hA] at e
        have := hge k (List.mem_append_left _ (List.mem_append_left _ (by simp [Hdr.ids, hA, e])))
        omega)⟩

def rowS (f : Nat) (ys : List Int) (deep : Nat) : Res (List P × List Int) := if deep = 0 then (match decS f ys with | .err e => .err e | .ok ps => .ok (ps, [])) else tupS f ys deep
def prepP (acc : List P) : Res (List P × List Int) → Res (List P × List Int)
  | .err e => .err e
  | .ok (ps, r) => .ok (acc ++ ps, r)
theorem prepP_nil (r : Res (List P × List Int)) : prepP [] r = r := by cases r <;> rfl
theorem prepP_prepP (a b : List P) (r : Res (List P × List Int)) : prepP a (prepP b r) = prepP (a ++ b) r := by cases r <;> simp [prepP]
theorem rowS_step {g : Nat} {k : Int} {q : List Int} {deep : Nat} (hk : deep = 0 ∨ ¬ k = 0) : (∀ er, takeS g (k :: q) deep = .err er → rowS (g + 1) (k :: q) deep = .err er) ∧ (∀ p r, takeS g (k :: q) deep = .ok (p, r) → rowS (g + 1) (k :: q) deep = prepP [p] (rowS g r deep)) := by
  by_cases h0 : deep = 0
  · subst h0
    refine ⟨fun er h => ?_, fun p r h => ?_⟩
    · simp only [rowS, if_true]; rw [decS, h]
    · simp only [rowS, if_true]; rw [decS, h]; dsimp only; cases decS g r <;> rfl
  · have hk' : ¬ k = 0 := hk.resolve_left h0
    refine ⟨fun er h => ?_, fun p r h => ?_⟩
    · simp only [rowS, if_neg h0]; rw [tupS, if_neg hk', h]
    · simp only [rowS, if_neg h0]; rw [tupS, if_neg hk', h]; dsimp only; cases tupS g r deep <;> rfl
abbrev OwnP (w : World) (h : Hdr) (ls : List (LT PS)) : Prop := OwnL PS.enc 5 54 w h ls
theorem LT.Own.belowP {t8 tn : TypeId} {w w' : World} {l : LT PS} (k : l.Own PS.enc t8 tn w) (hb : Below w.heap.size w w') : l.Own PS.enc t8 tn w' := k.move fun i hi => hb.block i (k.lt i hi)
theorem OwnL.belowP {t8 tn : TypeId} {w w' : World} {h : Hdr} {ls : List (LT PS)} (k : OwnL PS.enc t8 tn w h ls) (hb : Below w.heap.size w w') : OwnL PS.enc t8 tn w' h ls := k.move fun i hi => hb.block i (k.lt i (List.mem_append.2 hi))
def RowPost (w : World) (g : Nat) (A : Option Addr) (xs : List Int) (c p deep f : Nat) (e : Ending) (w' : World) : Prop :=
  ∃ (h : Hdr) (ls : List (LT PS)) (p' : Nat) (f' : Int), e = .returned (.slice h.A ls.length h.cap) ∧ RSt w' g A xs.length c p' f' ∧ But w w' g ∧ OwnP w' h ls ∧ (h.ids ++ LT.idss ls).Nodup ∧ (∀ k ∈ h.ids ++ LT.idss ls, w.heap.size ≤ k) ∧ p ≤ p' ∧ p' ≤ xs.length ∧ ls.length ≤ xs.length ∧
    (f' = 0 ∧ rowS f (xs.drop p) deep = .ok (LT.pures ls, xs.drop p') ∨ f' ≠ 0 ∧ rowS f (xs.drop p) deep = .err f')
def RowAt (f : Nat) : Prop := ∀ (w : World) (g : Nat) (A : Option Addr) (xs : List Int) (c p deep : Nat), RSt w g A xs.length c p 0 → Row w A (nums8 xs) → Byt xs → xs.length ≤ 1099511627776 → (nums8 xs ≠ [] → ∀ b o, A = some ⟨b, o, none⟩ → b ≠ g) → p ≤ xs.length → 2 * (xs.length - p) + 1 ≤ f → deep ≤ 16 →
  Calls Try.prog 16 #[.pointer (some ⟨g, 0, none⟩), .int .i64 (deep : Int)] w (RowPost w g A xs c p deep f)
structure RowJ (w : World) (g : Nat) (A : Option Addr) (xs : List Int) (c p deep f : Nat) (wr : World) (k gf p' : Nat) (f' : Int) (h : Hdr) (ls : List (LT PS)) : Prop where
  st : RSt wr g A xs.length c p' f'
  but : But w wr g
  own : OwnP wr h ls
  nd : (h.ids ++ LT.idss ls).Nodup
  ge : ∀ k ∈ h.ids ++ LT.idss ls, w.heap.size ≤ k
  le : p' ≤ xs.length ∧ k = xs.length - p' ∧ ls.length ≤ p' ∧ p ≤ p'
  glt : g < w.heap.size
  fuel : 2 * (xs.length - p') + 1 ≤ gf ∧ gf ≤ f
  eq : f' = 0 ∧ rowS f (xs.drop p) deep = prepP (LT.pures ls) (rowS gf (xs.drop p') deep) ∨ f' ≠ 0 ∧ rowS f (xs.drop p) deep = .err f'
/-- What a round hands on. -/
structure RowK (g : Nat) (A : Option Addr) (xs : List Int) (c p' deep gf : Nat) (wr w4 : World) (k : Int) (q : List Int) (l : LT PS) (p2 : Nat) (f2 : Int) : Prop where
  st : RSt w4 g A xs.length c p2 f2
  but : But wr w4 g
  own : l.Own PS.enc 5 54 w4
  nd : l.ids.Nodup
  ge : ∀ k ∈ l.ids, wr.heap.size ≤ k
  le : p' < p2 ∧ p2 ≤ xs.length
  eq : f2 = 0 ∧ takeS gf (k :: q) deep = .ok (l.pure, xs.drop p2) ∨ f2 ≠ 0 ∧ takeS gf (k :: q) deep = .err f2
theorem But.trans_below {a b c : World} {g : Nat} (h : But a b g) (k : Below a.heap.size b c) : But a c g :=
  ⟨k.os.trans h.os, k.tape.trans h.tape, k.output.trans h.output, Nat.le_trans h.size k.size, fun i hi hne => (k.block i hi).trans (h.block i hi hne)⟩
def RowCut (g : Nat) (A : Option Addr) (xs : List Int) (c p' deep gf : Nat) (w2 : World) (k : Int) (q : List Int) (wc : World) : Prop :=
  ∃ (l : LT PS) (p2 : Nat) (f2 : Int), wc.heap[w2.heap.size]? = some (.cells (l.cells PS.enc).toArray 54 (0, 0)) ∧ RowK g A xs c p' deep gf w2 wc k q l p2 f2
theorem takeS_int (f : Nat) (q : List Int) (deep : Nat) : takeS (f + 1) (3 :: q) deep = if q.length < 8 then .err 40 else .ok (.mk ⟨3, false, (be8 (q.take 8) : Int) - top63, 0, 0⟩ [] [], q.drop 8) := by
  unfold takeS
  rw [if_neg (by omega), if_neg (by omega), if_pos rfl]
theorem takeS_real (f : Nat) (q : List Int) (deep : Nat) : takeS (f + 1) (4 :: q) deep = if q.length < 8 then .err 40 else if cleanB (unrankB (be8 (q.take 8))) = unrankB (be8 (q.take 8)) then .ok (.mk ⟨4, false, 0, unrankB (be8 (q.take 8)), 0⟩ [] [], q.drop 8) else .err 40 := by
  unfold takeS
  rw [if_neg (by omega), if_neg (by omega), if_neg (by omega), if_pos rfl]
theorem takeS_point (f : Nat) (q : List Int) (deep : Nat) : takeS (f + 1) (5 :: q) deep = if q.length < 16 then .err 40 else if cleanB (unrankB (be8 (q.take 8))) = unrankB (be8 (q.take 8)) ∧ cleanB (unrankB (be8 ((q.drop 8).take 8))) = unrankB (be8 ((q.drop 8).take 8)) then .ok (.mk ⟨5, false, 0, unrankB (be8 (q.take 8)), unrankB (be8 ((q.drop 8).take 8))⟩ [] [], q.drop 16) else .err 40 := by
  unfold takeS
  rw [if_neg (by omega), if_neg (by omega), if_neg (by omega), if_neg (by omega), if_pos rfl]
theorem But.set_new {a w : World} {g x : Nat} (h : But a w g) (hx : a.heap.size ≤ x) (j : Nat) (u : Value) : But a (w.setCell ⟨x, j, none⟩ u) g :=
  h.trans_below ⟨rfl, rfl, rfl, by simp [World.setCell], fun k hk => Below.heap_setCell w _ u k (by show k ≠ x; omega)⟩
theorem blk_set_far {w : World} {g j : Nat} {o : Obj} {b : Nat} (h : w.heap[b]? = some o) (hne : b ≠ g) (u : Value) : (w.setCell ⟨g, j, none⟩ u).heap[b]? = some o := (Below.heap_setCell w ⟨g, j, none⟩ u b hne).trans h
/-- A node without text and parts. -/
theorem rowCut_leaf {g : Nat} {A : Option Addr} {xs : List Int} {c p' deep gf : Nat} {w2 : World} {k : Int} {q : List Int} {wc : World} {s : PS} {p2 : Nat} {f2 : Int} (hx : wc.heap[w2.heap.size]? = some (.cells #[.int .i64 s.kind, .bool s.b, .int .i64 s.n, .int .u64 s.re, .int .u64 s.im, .slice none 0 0, .slice none 0 0] 54 (0, 0)))
    (hst : RSt wc g A xs.length c p2 f2) (hbut : But w2 wc g) (hle : p' < p2 ∧ p2 ≤ xs.length) (heq : f2 = 0 ∧ takeS gf (k :: q) deep = .ok (.mk s [] [], xs.drop p2) ∨ f2 ≠ 0 ∧ takeS gf (k :: q) deep = .err f2) : RowCut g A xs c p' deep gf w2 k q wc :=
  ⟨.mk s ⟨none, 0⟩ [] ⟨none, 0⟩ [], p2, f2, hx, hst, hbut, .mk ⟨rfl, .inl ⟨rfl, rfl⟩⟩ ⟨rfl, .inl ⟨rfl, rfl⟩⟩ (fun p hp => by cases hp), by simp [LT.ids, Hdr.ids, LT.idss], by simp [LT.ids, Hdr.ids, LT.idss], hle, heq⟩
theorem RowJ.drewN {w : World} {g : Nat} {A : Option Addr} {xs : List Int} {c p deep f : Nat} {wr : World} {k gf p' : Nat} {f' : Int} {h : Hdr} {ls : List (LT PS)} (J : RowJ w g A xs c p deep f wr k gf p' f' h ls) (n : Nat) : RowJ w g A xs c p deep f (wr.drewN n) k gf p' f' h ls :=
  ⟨J.st, J.but.drewN n, J.own.move fun _ _ => rfl, J.nd, J.ge, J.le, J.glt, J.fuel, J.eq⟩
set_option maxRecDepth 100000 in
set_option maxHeartbeats 20000000 in
theorem row_of (f : Nat) (HRow : ∀ f', f' < f → RowAt f') : RowAt f := by
  intro w g A xs c p deep hs hr hx hm hg hp hf hdeep
  have J0 : RowJ w g A xs c p deep f w (xs.length - p) f p 0 ⟨none, 0⟩ [] := ⟨hs, But.refl _ _, ⟨⟨rfl, .inl ⟨rfl, rfl⟩⟩, fun p hp => by cases hp⟩, by simp [Hdr.ids, LT.idss], by simp [Hdr.ids, LT.idss], ⟨hp, rfl, by simp, Nat.le_refl _⟩, blk_lt hs, ⟨hf, Nat.le_refl _⟩, .inl ⟨rfl, (prepP_nil _).symm⟩⟩
  have HR := Lib.hid hr
  have HX := Lib.hid hx
  have HG := Lib.hid hg
  have HREC := Lib.hid HRow
  clear hs hr hx hg HRow
  go_enter Try.func16, Try.ntmps16
  go_wp2
  go_loopg [5] (xs.length - p) (fun k vs wr => ∃ (gf p' : Nat) (f' : Int) (h : Hdr) (ls : List (LT PS)), Value.slice h.A ls.length h.cap = vs ∧ RowJ w g A xs c p deep f wr k gf p' f' h ls)
  case atStart => exact ⟨f, p, 0, ⟨none, 0⟩, [], rfl, J0⟩
  case round =>
    clear J0
    obtain ⟨gf, p', f', h, ls, hvs, HJ⟩ := hrel
    subst hvs
    have hc0 : wr.cell? ⟨g, 0, none⟩ = _ := (blk_cell HJ.st 0).trans rfl
    have hc1 : wr.cell? ⟨g, 1, none⟩ = _ := (blk_cell HJ.st 1).trans rfl
    have hc2 : wr.cell? ⟨g, 2, none⟩ = _ := (blk_cell HJ.st 2).trans rfl
    have HJ := Lib.hid HJ
    by_cases hf0 : f' = 0
    case neg =>
      have hfb : (f' == 0) = false := by simpa using hf0
      have HF := Lib.hid hf0
      clear hf0
      go_wp2
      go_ret
      refine ⟨⟨none, 0⟩, [], p', f', rfl, HJ.out.st, HJ.out.but, ⟨⟨rfl, .inl ⟨rfl, rfl⟩⟩, fun p hp => by cases hp⟩, by simp [Hdr.ids, LT.idss], by simp [Hdr.ids, LT.idss], HJ.out.le.2.2.2, HJ.out.le.1, by simp, ?_⟩
      rcases HJ.out.eq with ⟨h1, _⟩ | h1
      · exact absurd h1 HF.out
      · exact .inr h1
    case pos =>
    subst hf0
    have heq := (HJ.out.eq.resolve_right (fun h => h.1 rfl)).2
    have HEQ := Lib.hid heq
    clear heq
    obtain ⟨gf, hgf⟩ : ∃ g', gf = g' + 1 := ⟨gf - 1, by have := HJ.out.fuel; omega⟩
    subst hgf
    have hple := HJ.out.le.1
    -- where the bytes end
    by_cases hend : deep = 0 ∧ p' = xs.length
    · obtain ⟨h1, h2⟩ := hend
      subst h1
      have hcmp : ((p' : Int) == (xs.length : Int)) = true := by rw [h2]; simp
      have H2 := Lib.hid h2
      clear h2
      go_wp2
      go_quiet (fail)
      go_wp2
      go_ret
      refine ⟨h, ls, p', 0, rfl, HJ.out.st, HJ.out.but.drewN _, HJ.out.own.move fun _ _ => rfl, HJ.out.nd, HJ.out.ge, HJ.out.le.2.2.2, HJ.out.le.1, by have := HJ.out.le; omega, .inl ⟨rfl, ?_⟩⟩
      rw [HEQ.out, H2.out, List.drop_eq_nil_of_le (Nat.le_refl _)]
      simp [rowS, decS, prepP]
    · have HEND := Lib.hid hend
      clear hend
      go_upto_region 5 with (fail)
      go_cut [26] (fun v26 wc => v26 = .bool false ∧ ∃ n, wc = wr.drewN n)
      case first =>
        by_cases h0 : deep = 0
        · have hne : ¬ p' = xs.length := fun h => HEND.out ⟨h0, h⟩
          subst h0
          have hcmp : ((p' : Int) == (xs.length : Int)) = false := by simp; omega
          clear hne
          go_wp2
          go_quiet (fail)
          go_wp2
          go_meet
          case rel => exact ⟨rfl, _, rfl⟩
        · have hdb : ((deep : Int) == 0) = false := by simp; omega
          clear h0
          go_wp2
          go_quiet (fail)
          go_wp2
          go_meet
          case rel => exact ⟨rfl, _, rfl⟩
      case rest =>
        obtain ⟨rfl, nd, rfl⟩ := hcut
        clear hc0 hc1 hc2
        have HJ2 := Lib.hid (HJ.out.drewN nd)
        clear HJ
        have HJ := HJ2
        clear HJ2
        generalize wr.drewN nd = wd at *
        go_wp2_with fail
        refine (next_any wd g A xs c p' 0 HJ.out.st (HR.out.but HJ.out.but HG.out) HX.out (by omega) HG.out).mono ?_
        rintro e w2 ⟨u, p2, f2, rfl, hu0, hu1, hst, hbut, hnr⟩
        have hc0 : w2.cell? ⟨g, 0, none⟩ = _ := (blk_cell hst 0).trans rfl
        have hc1 : w2.cell? ⟨g, 1, none⟩ = _ := (blk_cell hst 1).trans rfl
        have hc2 : w2.cell? ⟨g, 2, none⟩ = _ := (blk_cell hst 2).trans rfl
        have hfz := fun j => blk_frozen hst j
        have hglt2 : g < w2.heap.size := blk_lt hst
        have HN := Lib.hid (show _ ∧ _ from ⟨hst, hbut⟩)
        have hown2 : OwnP w2 h ls := HJ.out.own.move fun k hk => hbut.block k (HJ.out.own.lt k (List.mem_append.2 hk)) (fun e => by have := HJ.out.ge k (List.mem_append.2 hk); have := HJ.out.glt; omega)
        have HO2 := Lib.hid hown2
        have HB2 := Lib.hid (HJ.out.but.trans hbut)
        clear hst hbut hown2
        rcases hnr with ⟨h1, _⟩ | ⟨_, hle, rfl, hpe, rfl⟩ | ⟨_, rfl, rfl, hlt, hue⟩
        · exact absurd rfl h1
        · subst hpe
          have hpe2 : p2 = xs.length := by omega
          have HPE := Lib.hid hpe2
          clear hpe2
          go_wp2
          go_ret
          refine ⟨h, ls, p2, 40, rfl, HN.out.1.alloc _, HB2.out.alloc _, HO2.out.belowP ((Below.refl _ _).alloc (Nat.le_refl _) _), HJ.out.nd, HJ.out.ge, HJ.out.le.2.2.2, HJ.out.le.1, by have := HJ.out.le; omega, .inr ⟨by decide, ?_⟩⟩
          rw [HEQ.out, List.drop_eq_nil_of_le (by have := HPE.out; omega)]
          have hd0 : ¬ deep = 0 := fun h0 => HEND.out ⟨h0, HPE.out⟩
          simp [rowS, hd0, tupS, prepP]
        · have hdr := List.drop_eq_getElem_cons hlt
          rw [← hue] at hdr
          have HD := Lib.hid hdr
          clear hdr hue
          have hlt' : p' + 1 ≤ xs.length := hlt
          by_cases hret : ¬ deep = 0 ∧ u = 0
          · obtain ⟨h1, h2⟩ := hret
            subst h2
            have hgt : decide (0 < deep) = true := by simp; omega
            have H1 := Lib.hid h1
            clear h1
            go_wp2
            go_ret
            refine ⟨h, ls, p' + 1, 0, rfl, HN.out.1.alloc _, HB2.out.alloc _, HO2.out.belowP ((Below.refl _ _).alloc (Nat.le_refl _) _), HJ.out.nd, HJ.out.ge, by have := HJ.out.le; omega, hlt, by have := HJ.out.le; omega, .inl ⟨rfl, ?_⟩⟩
            rw [HEQ.out, HD.out]
            simp [rowS, H1.out, tupS, prepP]
          · have hk : deep = 0 ∨ ¬ u = 0 := by omega
            have HK := Lib.hid hk
            clear hk hret
            go_upto_region 6 with (fail)
            go_cut [45] (fun v45 wc => v45 = .bool false ∧ wc = w2.alloc (.cells #[.int .i64 u, .bool false, .int .i64 0, .int .u64 0, .int .u64 0, .slice none 0 0, .slice none 0 0] 54))
            case first =>
              by_cases h0 : deep = 0
              · have hgt : decide (0 < deep) = false := by simp; omega
                clear h0
                go_wp2
                go_meet
                case rel => exact ⟨rfl, rfl⟩
              · have hgt : decide (0 < deep) = true := by simp; omega
                have hku : (u == 0) = false := by simpa using HK.out.resolve_left h0
                clear h0
                go_wp2
                go_meet
                case rel => exact ⟨rfl, rfl⟩
            case rest =>
              obtain ⟨rfl, rfl⟩ := hcut
              obtain ⟨gf2, hgf2⟩ : ∃ g', gf = g' + 1 := ⟨gf - 1, by have := HJ.out.fuel; omega⟩
              subst hgf2
              have hqlen : (xs.drop (p' + 1)).length = xs.length - (p' + 1) := List.length_drop
              have HQL := Lib.hid hqlen
              clear hqlen
              go_upto_block 2 with (fail)
              go_cut [] (fun wc => RowCut g A xs c p' deep (gf2 + 1) w2 u (xs.drop (p' + 1)) wc)
              case first =>
                have hst3 : ∀ O, RSt (w2.alloc O) g A xs.length c (p' + 1) 0 := fun O => HN.out.1.alloc O
                have hrow3 : ∀ O, Row (w2.alloc O) A (nums8 xs) := fun O => (HR.out.but HB2.out HG.out).below ((Below.refl _ _).alloc (Nat.le_refl _) O)
                have H3 := Lib.hid (show _ ∧ _ from ⟨hst3, hrow3⟩)
                clear hst3 hrow3
                by_cases hbad : u < 1 ∨ 7 < u
                · have hk1 : (u == 1) = false := by simp; omega
                  have hk2 : (u == 2) = false := by simp; omega
                  have hk3 : (u == 3) = false := by simp; omega
                  have hk4 : (u == 4) = false := by simp; omega
                  have hk5 : (u == 5) = false := by simp; omega
                  have hk6 : (u == 6) = false := by simp; omega
                  have hk7 : (u == 7) = false := by simp; omega
                  have HBAD := Lib.hid hbad
                  clear hbad
                  go_wp2
                  go_meet
                  case rel => exact rowCut_leaf (s := ⟨u, false, 0, 0, 0⟩) (f2 := 40) (p2 := p' + 1) (by simpa using blk_new (w2.setCell ⟨g, 2, none⟩ (.int .i64 40)) _) ((HN.out.1.flt 40).alloc _) (((But.refl _ _).setCell 2 _).alloc _) ⟨by omega, hlt'⟩ (.inr ⟨by decide, takeS_bad gf2 u _ deep HBAD.out⟩)
                have hkk : u = 1 ∨ u = 2 ∨ u = 3 ∨ u = 4 ∨ u = 5 ∨ u = 6 ∨ u = 7 := by omega
                clear hbad hu0 hu1
                rcases hkk with rfl | rfl | rfl | rfl | rfl | rfl | rfl
                · go_wp2
                  go_meet
                  case rel => exact rowCut_leaf (s := .of 1) (f2 := 0) (p2 := p' + 1) (blk_new w2 _) (HN.out.1.alloc _) ((But.refl _ _).alloc _) ⟨by omega, hlt'⟩ (.inl ⟨rfl, by simp [takeS]⟩)
                · go_wp2_with fail
                  refine (next_any _ g A xs c (p' + 1) 0 (H3.out.1 _) (H3.out.2 _) HX.out (by omega) HG.out).mono ?_
                  rintro e w4 ⟨v, p2, f2, rfl, hv0, hv1, hst4, hbut4, hnr⟩
                  have eX := (hbut4.block w2.heap.size (by simp) (by omega)).trans (blk_new w2 _)
                  have hcX0 : w4.cell? ⟨w2.heap.size, 0, none⟩ = _ := (blk_cell eX 0).trans rfl
                  have hcX1 : w4.cell? ⟨w2.heap.size, 1, none⟩ = _ := (blk_cell eX 1).trans rfl
                  have hcX2 : w4.cell? ⟨w2.heap.size, 2, none⟩ = _ := (blk_cell eX 2).trans rfl
                  have hcX3 : w4.cell? ⟨w2.heap.size, 3, none⟩ = _ := (blk_cell eX 3).trans rfl
                  have hcX4 : w4.cell? ⟨w2.heap.size, 4, none⟩ = _ := (blk_cell eX 4).trans rfl
                  have hcX5 : w4.cell? ⟨w2.heap.size, 5, none⟩ = _ := (blk_cell eX 5).trans rfl
                  have hcX6 : w4.cell? ⟨w2.heap.size, 6, none⟩ = _ := (blk_cell eX 6).trans rfl
                  have hfX := fun j => blk_frozen eX j
                  have hc40 : w4.cell? ⟨g, 0, none⟩ = _ := (blk_cell hst4 0).trans rfl
                  have hc41 : w4.cell? ⟨g, 1, none⟩ = _ := (blk_cell hst4 1).trans rfl
                  have hc42 : w4.cell? ⟨g, 2, none⟩ = _ := (blk_cell hst4 2).trans rfl
                  have hfz4 := fun j => blk_frozen hst4 j
                  have EX := Lib.hid eX
                  have H4 := Lib.hid (show _ ∧ _ from ⟨hst4, ((But.refl w2 g).alloc _).trans hbut4⟩)
                  clear eX hst4 hbut4
                  rcases hnr with ⟨h1, _⟩ | ⟨_, hle2, rfl, hpe2, rfl⟩ | ⟨_, rfl, rfl, hlt2, hve⟩
                  · exact absurd rfl h1
                  · subst hpe2
                    have hq0 : xs.drop (p' + 1) = [] := List.drop_eq_nil_of_le hle2
                    have HQ0 := Lib.hid hq0
                    clear hq0 hle2
                    go_wp2
                    go_meet
                    case rel => exact rowCut_leaf (s := ⟨2, false, 0, 0, 0⟩) (f2 := 40) (p2 := p' + 1) (by have := blk_set EX.out 1 (.bool false); simpa using this) (blk_set_far H4.out.1 (by omega) _) (H4.out.2.set_new (by omega) 1 _) ⟨by omega, hlt'⟩ (.inr ⟨by decide, by rw [HQ0.out]; simp [takeS]⟩)
                  · have hdr2 := List.drop_eq_getElem_cons hlt2
                    rw [← hve] at hdr2
                    have HD2 := Lib.hid hdr2
                    clear hdr2 hve
                    by_cases hv2 : v < 2
                    · have hdv : decide (1 < v) = false := by simp; omega
                      go_wp2
                      go_meet
                      case rel => exact rowCut_leaf (s := ⟨2, v == 1, 0, 0, 0⟩) (f2 := 0) (p2 := p' + 1 + 1) (by have := blk_set EX.out 1 (.bool (v == 1)); simpa using this) (blk_set_far H4.out.1 (by omega) _) (H4.out.2.set_new (by omega) 1 _) ⟨by omega, hlt2⟩ (.inl ⟨rfl, by rw [HD2.out]; simp [takeS, hv2]⟩)
                    · have hdv : decide (1 < v) = true := by simp; omega
                      go_wp2
                      go_meet
                      case rel => exact rowCut_leaf (s := ⟨2, v == 1, 0, 0, 0⟩) (f2 := 40) (p2 := p' + 1 + 1) (by have := blk_set (blk_set_far (g := g) (j := 2) EX.out (by omega) (.int .i64 40)) 1 (.bool (v == 1)); simpa using this) (blk_set_far (RSt.flt H4.out.1 40) (by omega) _) ((H4.out.2.setCell 2 _).set_new (by omega) 1 _) ⟨by omega, hlt2⟩ (.inr ⟨by decide, by rw [HD2.out]; simp [takeS, hv2]⟩)
                · go_wp2_with fail
                  refine (rnumber_any _ g A xs c (p' + 1) 0 (H3.out.1 _) (H3.out.2 _) HX.out (by omega) HG.out hlt').mono ?_
                  rintro e w4 ⟨v, p2, f2, rfl, hv0, hv1, hst4, hbut4, hnr⟩
                  obtain ⟨v, rfl⟩ := Int.eq_ofNat_of_zero_le hv0
                  have eX := (hbut4.block w2.heap.size (by simp) (by omega)).trans (blk_new w2 _)
                  have hcX0 : w4.cell? ⟨w2.heap.size, 0, none⟩ = _ := (blk_cell eX 0).trans rfl
                  have hcX1 : w4.cell? ⟨w2.heap.size, 1, none⟩ = _ := (blk_cell eX 1).trans rfl
                  have hcX2 : w4.cell? ⟨w2.heap.size, 2, none⟩ = _ := (blk_cell eX 2).trans rfl
                  have hcX3 : w4.cell? ⟨w2.heap.size, 3, none⟩ = _ := (blk_cell eX 3).trans rfl
                  have hcX4 : w4.cell? ⟨w2.heap.size, 4, none⟩ = _ := (blk_cell eX 4).trans rfl
                  have hcX5 : w4.cell? ⟨w2.heap.size, 5, none⟩ = _ := (blk_cell eX 5).trans rfl
                  have hcX6 : w4.cell? ⟨w2.heap.size, 6, none⟩ = _ := (blk_cell eX 6).trans rfl
                  have hfX := fun j => blk_frozen eX j
                  have hc40 : w4.cell? ⟨g, 0, none⟩ = _ := (blk_cell hst4 0).trans rfl
                  have hc41 : w4.cell? ⟨g, 1, none⟩ = _ := (blk_cell hst4 1).trans rfl
                  have hc42 : w4.cell? ⟨g, 2, none⟩ = _ := (blk_cell hst4 2).trans rfl
                  have hfz4 := fun j => blk_frozen hst4 j
                  have EX := Lib.hid eX
                  have H4 := Lib.hid (show _ ∧ _ from ⟨hst4, ((But.refl w2 g).alloc _).trans hbut4⟩)
                  clear eX hst4 hbut4
                  have hxi : wrap64 (bits BinOp.xor IntKind.u64 (v : Int) 9223372036854775808) = (v : Int) - (top63 : Nat) := by
                    have := u64_xor_nat v 9223372036854775808 (by omega) (by omega)
                    rw [show (9223372036854775808 : Int) = ((9223372036854775808 : Nat) : Int) from rfl, this, xor_top v (by omega), wrap64]
                    unfold top63
                    split <;> omega
                  have HXI := Lib.hid hxi
                  have HNR := Lib.hid hnr
                  clear hxi hv0 hv1 hnr
                  go_wp2
                  go_meet
                  case rel =>
                    rw [HXI.out]
                    obtain ⟨a1, _, a3, a4, a5⟩ := HNR.out
                    have hql := HQL.out
                    by_cases h8 : p' + 1 + 8 ≤ xs.length
                    · have hf2 := a4 rfl h8
                      obtain ⟨_, _, hp2, hv⟩ := a1 hf2
                      refine rowCut_leaf (s := ⟨3, false, (v : Int) - (top63 : Nat), 0, 0⟩) (f2 := f2) (p2 := p2) (by have := blk_set EX.out 2 (.int .i64 ((v : Int) - (top63 : Nat))); simpa using this) (blk_set_far H4.out.1 (by omega) _) (H4.out.2.set_new (by omega) 2 _) ⟨by omega, a5.1⟩ (.inl ⟨hf2, ?_⟩)
                      rw [takeS_int, if_neg (by omega), hv, hp2, List.drop_drop]
                    · have hf2 := a3 rfl (by omega)
                      refine rowCut_leaf (s := ⟨3, false, (v : Int) - (top63 : Nat), 0, 0⟩) (f2 := f2) (p2 := p2) (by have := blk_set EX.out 2 (.int .i64 ((v : Int) - (top63 : Nat))); simpa using this) (blk_set_far H4.out.1 (by omega) _) (H4.out.2.set_new (by omega) 2 _) ⟨by omega, a5.1⟩ (.inr ⟨by omega, ?_⟩)
                      rw [takeS_int, if_pos (by omega), hf2]
                · go_wp2_with fail
                  refine (rreal_any _ g A xs c (p' + 1) 0 (H3.out.1 _) (H3.out.2 _) HX.out (by omega) HG.out hlt').mono ?_
                  rintro e w4 ⟨v, p2, f2, rfl, hv1, hst4, hbut4, hnr⟩
                  have eX := (hbut4.block w2.heap.size (by simp) (by omega)).trans (blk_new w2 _)
                  have hcX0 : w4.cell? ⟨w2.heap.size, 0, none⟩ = _ := (blk_cell eX 0).trans rfl
                  have hcX1 : w4.cell? ⟨w2.heap.size, 1, none⟩ = _ := (blk_cell eX 1).trans rfl
                  have hcX2 : w4.cell? ⟨w2.heap.size, 2, none⟩ = _ := (blk_cell eX 2).trans rfl
                  have hcX3 : w4.cell? ⟨w2.heap.size, 3, none⟩ = _ := (blk_cell eX 3).trans rfl
                  have hcX4 : w4.cell? ⟨w2.heap.size, 4, none⟩ = _ := (blk_cell eX 4).trans rfl
                  have hcX5 : w4.cell? ⟨w2.heap.size, 5, none⟩ = _ := (blk_cell eX 5).trans rfl
                  have hcX6 : w4.cell? ⟨w2.heap.size, 6, none⟩ = _ := (blk_cell eX 6).trans rfl
                  have hfX := fun j => blk_frozen eX j
                  have hc40 : w4.cell? ⟨g, 0, none⟩ = _ := (blk_cell hst4 0).trans rfl
                  have hc41 : w4.cell? ⟨g, 1, none⟩ = _ := (blk_cell hst4 1).trans rfl
                  have hc42 : w4.cell? ⟨g, 2, none⟩ = _ := (blk_cell hst4 2).trans rfl
                  have hfz4 := fun j => blk_frozen hst4 j
                  have EX := Lib.hid eX
                  have H4 := Lib.hid (show _ ∧ _ from ⟨hst4, ((But.refl w2 g).alloc _).trans hbut4⟩)
                  clear eX hst4 hbut4
                  have HNR := Lib.hid hnr
                  clear hv1 hnr
                  go_wp2
                  go_meet
                  case rel =>
                    obtain ⟨a1, _, a3, a4, a5⟩ := HNR.out
                    have hql := HQL.out
                    have hx4 : ((w4.setCell ⟨w2.heap.size, 3, none⟩ (.int .u64 v)).heap[w2.heap.size]? = some (.cells #[.int .i64 4, .bool false, .int .i64 0, .int .u64 v, .int .u64 0, .slice none 0 0, .slice none 0 0] 54 (0, 0))) := by have := blk_set EX.out 3 (.int .u64 v); simpa using this
                    refine rowCut_leaf (s := ⟨4, false, 0, v, 0⟩) (f2 := f2) (p2 := p2) hx4 (blk_set_far H4.out.1 (by omega) _) (H4.out.2.set_new (by omega) 3 _) ⟨by omega, a5.1⟩ ?_
                    rcases a3 rfl with hf2 | hf2
                    · obtain ⟨_, h8, hp2, hv, hcl⟩ := a1 hf2
                      refine .inl ⟨hf2, ?_⟩
                      rw [hv] at hcl
                      rw [takeS_real, if_neg (by omega), if_pos hcl, hv, hp2, List.drop_drop]
                    · refine .inr ⟨by omega, ?_⟩
                      rw [takeS_real, hf2]
                      by_cases h8 : xs.length < p' + 1 + 8
                      · rw [if_pos (by omega)]
                      · rw [if_neg (by omega), if_neg (fun hcl => by have := a4 rfl (by omega) hcl; omega)]
                · go_wp2_with fail
                  refine (rreal_any _ g A xs c (p' + 1) 0 (H3.out.1 _) (H3.out.2 _) HX.out (by omega) HG.out hlt').mono ?_
                  rintro e w4 ⟨v, p2, f2, rfl, hv1, hst4, hbut4, hnr⟩
                  have eX := (hbut4.block w2.heap.size (by simp) (by omega)).trans (blk_new w2 _)
                  have hcX0 : w4.cell? ⟨w2.heap.size, 0, none⟩ = _ := (blk_cell eX 0).trans rfl
                  have hcX1 : w4.cell? ⟨w2.heap.size, 1, none⟩ = _ := (blk_cell eX 1).trans rfl
                  have hcX2 : w4.cell? ⟨w2.heap.size, 2, none⟩ = _ := (blk_cell eX 2).trans rfl
                  have hcX3 : w4.cell? ⟨w2.heap.size, 3, none⟩ = _ := (blk_cell eX 3).trans rfl
                  have hcX4 : w4.cell? ⟨w2.heap.size, 4, none⟩ = _ := (blk_cell eX 4).trans rfl
                  have hcX5 : w4.cell? ⟨w2.heap.size, 5, none⟩ = _ := (blk_cell eX 5).trans rfl
                  have hcX6 : w4.cell? ⟨w2.heap.size, 6, none⟩ = _ := (blk_cell eX 6).trans rfl
                  have hfX := fun j => blk_frozen eX j
                  have hc40 : w4.cell? ⟨g, 0, none⟩ = _ := (blk_cell hst4 0).trans rfl
                  have hc41 : w4.cell? ⟨g, 1, none⟩ = _ := (blk_cell hst4 1).trans rfl
                  have hc42 : w4.cell? ⟨g, 2, none⟩ = _ := (blk_cell hst4 2).trans rfl
                  have hfz4 := fun j => blk_frozen hst4 j
                  have EX := Lib.hid eX
                  have H4 := Lib.hid (show _ ∧ _ from ⟨hst4, ((But.refl w2 g).alloc _).trans hbut4⟩)
                  clear eX hst4 hbut4
                  have HNR := Lib.hid hnr
                  clear hv1 hnr
                  have hst5 : RSt (w4.setCell ⟨w2.heap.size, 3, none⟩ (.int .u64 v)) g A xs.length c p2 f2 := blk_set_far H4.out.1 (by omega) _
                  have hbut5 : But w2 (w4.setCell ⟨w2.heap.size, 3, none⟩ (.int .u64 v)) g := H4.out.2.set_new (by omega) 3 _
                  have hx5 : ((w4.setCell ⟨w2.heap.size, 3, none⟩ (.int .u64 v)).heap[w2.heap.size]? = some (.cells #[.int .i64 5, .bool false, .int .i64 0, .int .u64 v, .int .u64 0, .slice none 0 0, .slice none 0 0] 54 (0, 0))) := by have := blk_set EX.out 3 (.int .u64 v); simpa using this
                  have hrow5 : Row (w4.setCell ⟨w2.heap.size, 3, none⟩ (.int .u64 v)) A (nums8 xs) := (HR.out.but HB2.out HG.out).but hbut5 HG.out
                  have H5 := Lib.hid (show _ ∧ _ ∧ _ ∧ _ from ⟨hst5, hbut5, hx5, hrow5⟩)
                  clear hst5 hbut5 hx5 hrow5
                  go_wp2_with fail
                  clear hcX0 hcX1 hcX2 hcX3 hcX4 hcX5 hcX6 hfX hc40 hc41 hc42 hfz4
                  have hp2le : p2 ≤ xs.length := HNR.out.2.2.2.2.1
                  refine (rreal_any _ g A xs c p2 f2 H5.out.1 H5.out.2.2.2 HX.out (by omega) HG.out hp2le).mono ?_
                  rintro e w6 ⟨v2, p3, f3, rfl, hv1, hst6, hbut6, hnr6⟩
                  have hsz5 := H5.out.2.1.size
                  have eX := (hbut6.block w2.heap.size (blk_lt H5.out.2.2.1) (by omega)).trans H5.out.2.2.1
                  have hcX0 : w6.cell? ⟨w2.heap.size, 0, none⟩ = _ := (blk_cell eX 0).trans rfl
                  have hcX1 : w6.cell? ⟨w2.heap.size, 1, none⟩ = _ := (blk_cell eX 1).trans rfl
                  have hcX2 : w6.cell? ⟨w2.heap.size, 2, none⟩ = _ := (blk_cell eX 2).trans rfl
                  have hcX3 : w6.cell? ⟨w2.heap.size, 3, none⟩ = _ := (blk_cell eX 3).trans rfl
                  have hcX4 : w6.cell? ⟨w2.heap.size, 4, none⟩ = _ := (blk_cell eX 4).trans rfl
                  have hcX5 : w6.cell? ⟨w2.heap.size, 5, none⟩ = _ := (blk_cell eX 5).trans rfl
                  have hcX6 : w6.cell? ⟨w2.heap.size, 6, none⟩ = _ := (blk_cell eX 6).trans rfl
                  have hfX := fun j => blk_frozen eX j
                  have H6 := Lib.hid (show _ ∧ _ ∧ _ ∧ _ from ⟨hst6, H5.out.2.1.trans hbut6, eX, hnr6⟩)
                  clear hst6 hbut6 eX hnr6 hv1
                  go_wp2
                  go_meet
                  case rel =>
                    obtain ⟨a1, _, a3, a4, a5⟩ := HNR.out
                    obtain ⟨hst6, hb6, eX, b1, b2, b3, b4, b5⟩ := H6.out
                    have hql := HQL.out
                    have hx6 : ((w6.setCell ⟨w2.heap.size, 4, none⟩ (.int .u64 v2)).heap[w2.heap.size]? = some (.cells #[.int .i64 5, .bool false, .int .i64 0, .int .u64 v, .int .u64 v2, .slice none 0 0, .slice none 0 0] 54 (0, 0))) := by have := blk_set eX 4 (.int .u64 v2); simpa using this
                    refine rowCut_leaf (s := ⟨5, false, 0, v, v2⟩) (f2 := f3) (p2 := p3) hx6 (blk_set_far hst6 (by omega) _) (hb6.set_new (by omega) 4 _) ⟨by omega, b5.1⟩ ?_
                    by_cases hf3 : f3 = 0
                    · obtain ⟨hf2, h8, hp3, hv2, hcl2⟩ := b1 hf3
                      obtain ⟨_, h88, hp2, hv, hcl⟩ := a1 hf2
                      refine .inl ⟨hf3, ?_⟩
                      rw [hv] at hcl
                      rw [hv2, hp2] at hcl2
                      rw [takeS_point, if_neg (by omega), if_pos ⟨hcl, by rw [List.drop_drop]; exact hcl2⟩, hv, hv2, hp3, hp2, List.drop_drop, List.drop_drop]
                    · refine .inr ⟨hf3, ?_⟩
                      have hf40 : f3 = 40 := by
                        by_cases hf2 : f2 = 0
                        · rcases b3 hf2 with h | h
                          · exact absurd h hf3
                          · exact h
                        · rw [b2 hf2]
                          rcases a3 rfl with h | h
                          · exact absurd h hf2
                          · exact h
                      rw [takeS_point, hf40]
                      by_cases h16 : (xs.drop (p' + 1)).length < 16
                      · rw [if_pos h16]
                      · rw [if_neg h16]
                        refine if_neg fun hcl => hf3 ?_
                        have hf2 := a4 rfl (by omega) hcl.1
                        obtain ⟨_, _, hp2, _, _⟩ := a1 hf2
                        refine b4 hf2 (by omega) ?_
                        rw [hp2]
                        have := hcl.2
                        rwa [List.drop_drop] at this
                · go_wp2_with fail
                  refine (rtext_any _ g A xs c (p' + 1) (H3.out.1 _) (H3.out.2 _) HX.out (by omega) HG.out hlt').mono ?_
                  rintro e w4 ⟨v, t, p2, f2, rfl, how, hst4, hbut4, hnr⟩
                  obtain ⟨A1, cap, rfl⟩ := own_slice how
                  have HOW := Lib.hid (own_weaken (base' := w2.heap.size + 1) how (by simp))
                  have HNR := Lib.hid hnr
                  clear how hnr
                  have eX := (hbut4.block w2.heap.size (by simp) (by omega)).trans (blk_new w2 _)
                  have hcX0 : w4.cell? ⟨w2.heap.size, 0, none⟩ = _ := (blk_cell eX 0).trans rfl
                  have hcX1 : w4.cell? ⟨w2.heap.size, 1, none⟩ = _ := (blk_cell eX 1).trans rfl
                  have hcX2 : w4.cell? ⟨w2.heap.size, 2, none⟩ = _ := (blk_cell eX 2).trans rfl
                  have hcX3 : w4.cell? ⟨w2.heap.size, 3, none⟩ = _ := (blk_cell eX 3).trans rfl
                  have hcX4 : w4.cell? ⟨w2.heap.size, 4, none⟩ = _ := (blk_cell eX 4).trans rfl
                  have hcX5 : w4.cell? ⟨w2.heap.size, 5, none⟩ = _ := (blk_cell eX 5).trans rfl
                  have hcX6 : w4.cell? ⟨w2.heap.size, 6, none⟩ = _ := (blk_cell eX 6).trans rfl
                  have hfX := fun j => blk_frozen eX j
                  have hc40 : w4.cell? ⟨g, 0, none⟩ = _ := (blk_cell hst4 0).trans rfl
                  have hc41 : w4.cell? ⟨g, 1, none⟩ = _ := (blk_cell hst4 1).trans rfl
                  have hc42 : w4.cell? ⟨g, 2, none⟩ = _ := (blk_cell hst4 2).trans rfl
                  have hfz4 := fun j => blk_frozen hst4 j
                  have EX := Lib.hid eX
                  have H4 := Lib.hid (show _ ∧ _ from ⟨hst4, ((But.refl w2 g).alloc _).trans hbut4⟩)
                  clear eX hst4 hbut4
                  go_wp2
                  go_meet
                  case rel =>
                    obtain ⟨a1, a2, a3, a4⟩ := HNR.out
                    have hx6 : ((w4.setCell ⟨w2.heap.size, 5, none⟩ (.slice A1 t.length cap)).heap[w2.heap.size]? = some (.cells #[.int .i64 6, .bool false, .int .i64 0, .int .u64 0, .int .u64 0, .slice A1 t.length cap, .slice none 0 0] 54 (0, 0))) := by have := blk_set EX.out 5 (.slice A1 t.length cap); simpa using this
                    have hid : LT.ids (.mk (PS.of 6) ⟨A1, cap⟩ t ⟨none, 0⟩ [] : LT PS) = Hdr.ids ⟨A1, cap⟩ := by simp [LT.ids, LT.idss, Hdr.ids]
                    refine ⟨.mk (PS.of 6) ⟨A1, cap⟩ t ⟨none, 0⟩ [], p2, f2, hx6, blk_set_far H4.out.1 (by omega) _, H4.out.2.set_new (by omega) 5 _, .mk (own_weaken (own_far HOW.out (by omega) 5 _) (Nat.zero_le _)) ⟨rfl, .inl ⟨rfl, rfl⟩⟩ (fun p hp => by cases hp), ?_, ?_, ⟨by omega, a2⟩, ?_⟩
                    · rw [hid]; cases A1 <;> simp [Hdr.ids]
                    · rw [hid]; exact fun k hk => by have := (own_ids_lt (h := ⟨A1, cap⟩) HOW.out k hk).1; omega
                    · rcases a1 with ⟨hf, ht⟩ | ⟨hf, ht⟩
                      · refine .inl ⟨hf, ?_⟩
                        rw [takeS_text, ht]
                        rfl
                      · refine .inr ⟨by omega, ?_⟩
                        rw [takeS_text, ht, hf]
                · by_cases h16 : deep = 16
                  · have hdp : ((deep : Int) == 16) = true := by rw [h16]; rfl
                    have H16 := Lib.hid h16
                    clear h16
                    go_wp2
                    go_ret
                    refine ⟨⟨none, 0⟩, [], p' + 1, 41, rfl, (HN.out.1.flt 41).alloc _, (HB2.out.setCell 2 _).alloc _, ⟨⟨rfl, .inl ⟨rfl, rfl⟩⟩, fun p hp => by cases hp⟩, by simp [Hdr.ids, LT.idss], by simp [Hdr.ids, LT.idss], by have := HJ.out.le; omega, hlt', by simp, .inr ⟨by decide, ?_⟩⟩
                    rw [HEQ.out, HD.out, (rowS_step (g := gf2 + 1) (k := 7) (q := xs.drop (p' + 1)) HK.out).1 41 (by rw [takeS_tuple, if_pos H16.out])]
                    rfl
                  · have hdp : ((deep : Int) == 16) = false := by simp; omega
                    have hd17 : deep + 1 ≤ 16 := by omega
                    have H16 := Lib.hid h16
                    clear h16
                    go_wp2_with fail
                    rw [show (deep : Int) + 1 = ((deep + 1 : Nat) : Int) from rfl]
                    refine (HREC.out gf2 (by have := HJ.out.fuel; omega) _ g A xs c (p' + 1) (deep + 1) (H3.out.1 _) (H3.out.2 _) HX.out hm HG.out hlt' (by have := HJ.out.fuel; omega) hd17).mono ?_
                    rintro e w4 ⟨h7, ls7, p2, f2, rfl, hst4, hbut4, how, hnd7, hge7, hp27, hpl7, hll7, hnr⟩
                    have hge7' : ∀ k ∈ h7.ids ++ LT.idss ls7, w2.heap.size + 1 ≤ k := fun k hk => by have := hge7 k hk; simpa using this
                    have H7 := Lib.hid (show _ ∧ _ ∧ _ ∧ _ from ⟨how, hnd7, hge7', hnr⟩)
                    clear how hnd7 hge7 hge7' hnr
                    have eX := (hbut4.block w2.heap.size (by simp) (by omega)).trans (blk_new w2 _)
                    have hcX0 : w4.cell? ⟨w2.heap.size, 0, none⟩ = _ := (blk_cell eX 0).trans rfl
                    have hcX1 : w4.cell? ⟨w2.heap.size, 1, none⟩ = _ := (blk_cell eX 1).trans rfl
                    have hcX2 : w4.cell? ⟨w2.heap.size, 2, none⟩ = _ := (blk_cell eX 2).trans rfl
                    have hcX3 : w4.cell? ⟨w2.heap.size, 3, none⟩ = _ := (blk_cell eX 3).trans rfl
                    have hcX4 : w4.cell? ⟨w2.heap.size, 4, none⟩ = _ := (blk_cell eX 4).trans rfl
                    have hcX5 : w4.cell? ⟨w2.heap.size, 5, none⟩ = _ := (blk_cell eX 5).trans rfl
                    have hcX6 : w4.cell? ⟨w2.heap.size, 6, none⟩ = _ := (blk_cell eX 6).trans rfl
                    have hfX := fun j => blk_frozen eX j
                    have hc40 : w4.cell? ⟨g, 0, none⟩ = _ := (blk_cell hst4 0).trans rfl
                    have hc41 : w4.cell? ⟨g, 1, none⟩ = _ := (blk_cell hst4 1).trans rfl
                    have hc42 : w4.cell? ⟨g, 2, none⟩ = _ := (blk_cell hst4 2).trans rfl
                    have hfz4 := fun j => blk_frozen hst4 j
                    have EX := Lib.hid eX
                    have H4 := Lib.hid (show _ ∧ _ from ⟨hst4, ((But.refl w2 g).alloc _).trans hbut4⟩)
                    clear eX hst4 hbut4
                    go_wp2
                    go_meet
                    case rel =>
                      obtain ⟨how, hnd7, hge7, hnr⟩ := H7.out
                      have hx6 : ((w4.setCell ⟨w2.heap.size, 6, none⟩ (.slice h7.A ls7.length h7.cap)).heap[w2.heap.size]? = some (.cells #[.int .i64 7, .bool false, .int .i64 0, .int .u64 0, .int .u64 0, .slice none 0 0, .slice h7.A ls7.length h7.cap] 54 (0, 0))) := by have := blk_set EX.out 6 (.slice h7.A ls7.length h7.cap); simpa using this
                      have hid : LT.ids (.mk (PS.of 7) ⟨none, 0⟩ [] h7 ls7 : LT PS) = h7.ids ++ LT.idss ls7 := by simp [LT.ids, Hdr.ids]
                      have how2 : OwnP (w4.setCell ⟨w2.heap.size, 6, none⟩ (.slice h7.A ls7.length h7.cap)) h7 ls7 := how.move fun i hi => Below.heap_setCell w4 _ _ i (by have := hge7 i (List.mem_append.2 hi); show i ≠ w2.heap.size; omega)
                      refine ⟨.mk (PS.of 7) ⟨none, 0⟩ [] h7 ls7, p2, f2, hx6, blk_set_far H4.out.1 (by omega) _, H4.out.2.set_new (by omega) 6 _, .mk ⟨rfl, .inl ⟨rfl, rfl⟩⟩ how2.row how2.all, ?_, ?_, ⟨by omega, hpl7⟩, ?_⟩
                      · rw [hid]; exact hnd7
                      · rw [hid]; exact fun k hk => by have := hge7 k hk; omega
                      · have hrt : rowS gf2 (xs.drop (p' + 1)) (deep + 1) = tupS gf2 (xs.drop (p' + 1)) (deep + 1) := by simp [rowS]
                        rw [hrt] at hnr
                        rcases hnr with ⟨hf, ht⟩ | ⟨hf, ht⟩
                        · refine .inl ⟨hf, ?_⟩
                          rw [takeS_tuple, if_neg H16.out, ht]
                          rfl
                        · refine .inr ⟨hf, ?_⟩
                          rw [takeS_tuple, if_neg H16.out, ht]
              case rest =>
                obtain ⟨l, p2, f2, hcx, hK⟩ := hcut
                obtain ⟨⟨kd, bb, nn, re, im⟩, th, tx, ph, ps⟩ := l
                have hcs : ((LT.mk (PS.mk kd bb nn re im) th tx ph ps).cells PS.enc).toArray = #[.int .i64 kd, .bool bb, .int .i64 nn, .int .u64 re, .int .u64 im, .slice th.A tx.length th.cap, .slice ph.A ps.length ph.cap] := rfl
                rw [hcs] at hcx
                have hcB0 : wc.cell? ⟨w2.heap.size, 0, none⟩ = _ := (blk_cell hcx 0).trans rfl
                have hcB1 : wc.cell? ⟨w2.heap.size, 1, none⟩ = _ := (blk_cell hcx 1).trans rfl
                have hcB2 : wc.cell? ⟨w2.heap.size, 2, none⟩ = _ := (blk_cell hcx 2).trans rfl
                have hcB3 : wc.cell? ⟨w2.heap.size, 3, none⟩ = _ := (blk_cell hcx 3).trans rfl
                have hcB4 : wc.cell? ⟨w2.heap.size, 4, none⟩ = _ := (blk_cell hcx 4).trans rfl
                have hcB5 : wc.cell? ⟨w2.heap.size, 5, none⟩ = _ := (blk_cell hcx 5).trans rfl
                have hcB6 : wc.cell? ⟨w2.heap.size, 6, none⟩ = _ := (blk_cell hcx 6).trans rfl
                have HK2 := Lib.hid hK
                have HCS := Lib.hid hcs
                have hownc : OwnP wc h ls := HO2.out.move fun k hk => hK.but.block k (HO2.out.lt k (List.mem_append.2 hk)) (fun e => by have := HJ.out.ge k (List.mem_append.2 hk); have := HJ.out.glt; omega)
                have hnd2 : ((h.ids ++ LT.idss ls) ++ (LT.mk (PS.mk kd bb nn re im) th tx ph ps).ids).Nodup := List.nodup_append.2 ⟨HJ.out.nd, hK.nd, fun x hx y hy e => by
                  have h1 := HO2.out.lt x hx
                  have h2 := hK.ge y hy
                  omega⟩
                have hge2 : ∀ k ∈ (h.ids ++ LT.idss ls) ++ (LT.mk (PS.mk kd bb nn re im) th tx ph ps).ids, w.heap.size ≤ k := fun x hx => by
                  rcases List.mem_append.1 hx with hx | hx
                  · exact HJ.out.ge x hx
                  · have h2 := hK.ge x hx; have := HB2.out.size; omega
                have HH := Lib.hid (show _ ∧ _ ∧ _ from ⟨hownc, hnd2, hge2⟩)
                clear hcs hcx hK hownc hnd2 hge2 hc0 hc1 hc2 hfz
                go_wp2_with (((with_reducible refine gate_dst (N := 106) rfl ?_); go_loud (refine app_nodeP rfl (.tmp 103) (.tmp 105) rfl w.heap.size h ls (LT.mk (PS.mk kd bb nn re im) th tx ph ps) _ HCS.out.symm rfl wc.heap.size rfl rfl HH.out.1 HK2.out.own HH.out.2.1 HH.out.2.2 (by have := HJ.out.le; omega) (by have := HB2.out.size; have := HK2.out.but.size; omega) ?_); intro h1 w5 own5 nd5 ge5 hb5; have H5 := Lib.hid (show _ ∧ _ ∧ _ ∧ _ from ⟨own5, nd5, ge5, hb5⟩); clear own5 nd5 ge5 hb5))
                go_roundg (xs.length - p2)
                case rel =>
                  obtain ⟨own5, nd5, ge5, hb5⟩ := H5.out
                  have hK := HK2.out
                  have hbut : But w w5 g := (HB2.out.trans hK.but).trans_below hb5
                  refine ⟨gf2 + 1, p2, f2, h1, ls ++ [LT.mk (PS.mk kd bb nn re im) th tx ph ps], by simp, ?_⟩
                  refine ⟨(hb5.block g HJ.out.glt).trans hK.st, hbut, own5, nd5, ge5, ⟨hK.le.2, rfl, ?_, ?_⟩, HJ.out.glt, ⟨?_, ?_⟩, ?_⟩
                  · have := HJ.out.le; have := hK.le; simp; omega
                  · have := HJ.out.le; have := hK.le; omega
                  · have := HJ.out.fuel; have := hK.le; omega
                  · have := HJ.out.fuel; omega
                  · have hst := rowS_step (g := gf2 + 1) (k := u) (q := xs.drop (p' + 1)) HK.out
                    rcases hK.eq with ⟨hz, ht⟩ | ⟨hz, ht⟩
                    · refine .inl ⟨hz, ?_⟩
                      rw [HEQ.out, HD.out, hst.2 _ _ ht, prepP_prepP, LT.pures_map, LT.pures_map, List.map_append]
                      rfl
                    · refine .inr ⟨hz, ?_⟩
                      rw [HEQ.out, HD.out, hst.1 _ ht]
                      rfl
                case measure => have := HJ.out.le; have := HK2.out.le; omega
theorem row_all (f : Nat) : RowAt f := by
  induction f using Nat.strongRecOn with
  | _ f ih => exact row_of f ih
/-- haulageref04.Decode. -/
def RDecPost (w : World) (f : Nat) (xs : List Int) (e : Ending) (w' : World) : Prop :=
  Below w.heap.size w w' ∧ match decS f xs with
    | .err er => er ≠ 0 ∧ e = .returned (.tuple #[.slice none 0 0, .int .i64 er])
    | .ok ps => ∃ (h : Hdr) (ls : List (LT PS)), e = .returned (.tuple #[.slice h.A ls.length h.cap, .int .i64 0]) ∧ LT.pures ls = ps ∧ OwnP w' h ls ∧ (h.ids ++ LT.idss ls).Nodup ∧ (∀ k ∈ h.ids ++ LT.idss ls, w.heap.size ≤ k)
end Go.Proofs.Ytplfmpcoojkjlaa
