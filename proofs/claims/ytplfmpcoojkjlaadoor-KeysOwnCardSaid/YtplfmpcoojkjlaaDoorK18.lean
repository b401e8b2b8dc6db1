/- What was lent, with its marks; append of a value. -/
import Derived.Test.YtplfmpcoojkjlaaDoorK16
import Derived.Test.YtplfmpcoojkjlaaDoorK2
import Derived.Lib.Hide
namespace Go.Proofs.YtplfmpcoojkjlaaDoor
open Go.RowKit Go.Proofs.YtplfmpcoojkjlaaDoorW.PrintWords
/-- Of an owned row, a beginning. -/
theorem own_cut {w : World} {base : Nat} {e : TypeId} {size : Nat} {A : Option Addr} {n m c : Nat} {xs ys : List Value} (h : w.ownsRow base e size (.slice A m c) m (xs ++ ys)) (hn : n ≤ m) (hx : xs.length = n * size) : w.ownsRow base e size (.slice A n c) n xs := by
  obtain ⟨hl, h⟩ := h
  refine ⟨hx, ?_⟩
  rcases h with ⟨h, rfl⟩ | ⟨g, cap, cur, h, hb, hh, hnc, hcm, hsz, ht⟩
  · injection h with h1 _ h2
    subst h1 h2
    obtain rfl : n = 0 := by omega
    exact .inl ⟨rfl, rfl⟩
  · injection h with h1 _ h2
    subst h1 h2
    refine .inr ⟨g, c, cur, rfl, hb, hh, by omega, hcm, hsz, ?_⟩
    have h4 : xs.length ≤ m * size := by rw [← hl]; simp
    have h3 := congrArg (List.take xs.length) ht
    rw [List.take_take, Nat.min_eq_left h4, List.take_left' rfl] at h3
    rw [← hx]
    exact h3
theorem row_move {w w' : World} {A : Option Addr} {cs : List Value} (h : Row w A cs) (hm : ∀ b o, A = some ⟨b, o, none⟩ → w'.heap[b]? = w.heap[b]?) : Row w' A cs := by
  rcases h with h | ⟨b, o, rfl, hlt, hc⟩
  · exact .inl h
  · have e := hm b o rfl
    refine .inr ⟨b, o, rfl, ?_, fun i u hu => ?_⟩
    · rw [Array.getElem?_eq_getElem hlt] at e
      exact (Array.getElem?_eq_some_iff.1 e).1
    · rw [← hc i u hu]
      simp only [World.cell?, e]
/-- The node that stands behind each list that was lent. -/
def markN : LT VS := .mk ⟨-99, false, 0, 0, 0, 0⟩ ⟨none, 0⟩ [] ⟨none, 0⟩ []
/-- What was lent has its marks: two bytes behind each text, a node behind each list. -/
inductive LT.Mkd (w : World) : LT VS → Prop where
  | mk {l : LT VS} (ht : Row w l.th.A (nums8 (l.text ++ [201, 77]))) (hc : l.text.length + 2 ≤ l.th.cap) (hp : Row w l.ph.A (rowCells VS.enc (l.parts ++ [markN]))) (hq : l.parts.length + 1 ≤ l.ph.cap) (hs : ∀ p ∈ l.parts, LT.Mkd w p) : LT.Mkd w l
structure MkdL (w : World) (h : Hdr) (ls : List (LT VS)) : Prop where
  row : Row w h.A (rowCells VS.enc (ls ++ [markN]))
  cap : ls.length + 1 ≤ h.cap
  all : ∀ p ∈ ls, LT.Mkd w p
theorem Hdr.ids_A {h : Hdr} {b o : Nat} (e : h.A = some ⟨b, o, none⟩) : b ∈ h.ids := by simp [Hdr.ids, e]
theorem LT.Mkd.move {w w' : World} {l : LT VS} (h : l.Mkd w) (hm : ∀ k ∈ l.ids, w'.heap[k]? = w.heap[k]?) : l.Mkd w' := by
  induction h with
  | @mk l ht hc hp hq _ ih =>
    rw [LT.ids_eq] at hm
    refine .mk (row_move ht fun b o e => hm b ?_) hc (row_move hp fun b o e => hm b ?_) hq fun p hp => ih p hp fun k hk => hm k ?_
    · exact List.mem_append_left _ (Hdr.ids_A e)
    · exact List.mem_append_right _ (List.mem_append_left _ (Hdr.ids_A e))
    · exact List.mem_append_right _ (List.mem_append_right _ (LT.ids_mem hp hk))
theorem LT.Mkd.keep {w w' : World} {l : LT VS} (h : l.Mkd w) (hb : Below w.heap.size w w') : l.Mkd w' := by
  induction h with
  | mk ht hc hp hq _ ih => exact .mk (ht.below hb) hc (hp.below hb) hq ih
theorem MkdL.below {w w' : World} {h : Hdr} {ls : List (LT VS)} (k : MkdL w h ls) (hb : Below w.heap.size w w') : MkdL w' h ls := ⟨k.row.below hb, k.cap, fun p hp => (k.all p hp).keep hb⟩
theorem markN_own (t8 tn : TypeId) (w : World) : markN.Own VS.enc t8 tn w := .mk ⟨rfl, .inl ⟨rfl, rfl⟩⟩ ⟨rfl, .inl ⟨rfl, rfl⟩⟩ (fun p hp => by cases hp)
theorem markN_ids : markN.ids = [] := rfl
theorem nodeV_one (l : LT VS) : ∀ u ∈ l.cells VS.enc, u.oneCell' = true := by
  intro u hu
  simp only [LT.cells, VS.enc, List.cons_append, List.nil_append, List.mem_cons, List.not_mem_nil, or_false] at hu
  rcases hu with rfl | rfl | rfl | rfl | rfl | rfl | rfl <;> rfl
theorem infoVal : (Tryd.prog.info? 46).map (fun i => (i.zero, i.size, i.bytes)) = some (some (.agg #[.int .i64 0, .bool false, .int .i64 0, .float .f64 0, .complex .f64 0 0, .slice none 0 0, .slice none 0 0]), 7, 96) := by kernel_rfl
theorem cut_slice {w : World} {base : Nat} {e : TypeId} {size n : Nat} {v : Value} {xs : List Value} (h : w.ownsRow base e size v n xs) : ∃ A c, v = .slice A n c := by
  rcases h.2 with ⟨rfl, rfl⟩ | ⟨g, cap, cur, rfl, _⟩
  · exact ⟨none, 0, rfl⟩
  · exact ⟨_, cap, rfl⟩
/-- append(row, v), v made; what lies in other blocks stays as it is. -/
theorem app_value {ops : Array Oper} {rest : List Oper} {o : Oper} {a : Act} {Q : Exit → Act → World → Prop} {W : World} (hgd : o.guard = none) (s x : Operand)
    (ho : o.op = .call { callee := .builtin .append, args := #[s, x], argTypes := #[28, 28] }) (B : Nat) (h : Hdr) (ls : List (LT VS)) (l : LT VS) (cs : Array Value) (hcs : cs = (l.cells VS.enc).toArray)
    (hs : a.eval s = .slice h.A ls.length h.cap) (N : Nat) (hx : a.eval x = .slice (some ⟨N, 0, none⟩) 1 1) (hN : N = W.heap.size) (own : OwnL VS.enc 5 46 W h ls) (lown : l.Own VS.enc 5 46 W)
    (hnd : ((h.ids ++ LT.idss ls) ++ l.ids).Nodup) (hge : ∀ k ∈ (h.ids ++ LT.idss ls) ++ l.ids, B ≤ k) (hl : ls.length < 1099511627777) (hB : B ≤ W.heap.size)
    (hk : ∀ (h1 : Hdr) w1, OwnL VS.enc 5 46 w1 h1 (ls ++ [l]) → (h1.ids ++ LT.idss (ls ++ [l])).Nodup → (∀ k ∈ h1.ids ++ LT.idss (ls ++ [l]), B ≤ k) → (∀ k ∈ LT.idss ls ++ l.ids, w1.heap[k]? = W.heap[k]?) → Below B W w1 → wpList Tryd.prog ops Q rest (a.put o.dst (.slice h1.A (ls.length + 1) h1.cap)) w1) :
    wpList Tryd.prog ops Q (o :: rest) a (W.alloc (.cells cs 46)) := by
  subst hcs
  subst hN
  refine print_append_cells (w0 := W) 0 hgd s x 28 46 _ 7 96 ho Tryd.underlying28 infoVal rfl (by decide) (by decide) (.slice h.A ls.length h.cap) ls.length (rowCells VS.enc ls) (l.cells VS.enc) hs hx (LT.cells_length VS.enc5 l) (nodeV_one l) own.row (Below.refl 0 W) (Nat.zero_le _) (by omega) ?_
  intro v1 w1 hown _ hg hat
  obtain ⟨A1, c1, rfl⟩ := cut_slice hown
  have hrow : w1.ownsRow 0 46 7 (.slice A1 (ls ++ [l]).length c1) (ls ++ [l]).length (rowCells VS.enc (ls ++ [l])) := by
    rw [rowCells_append, rowCells_one, List.length_append]; exact hown
  have hown1 : (Value.slice A1 (ls.length + 1) c1).ownBlock = A1.map (·.block) := by cases A1 <;> rfl
  have hownh : (Value.slice h.A ls.length h.cap).ownBlock = h.A.map (·.block) := by cases h.A <;> rfl
  have hids : ∀ k ∈ (Hdr.mk A1 c1).ids, (k ∈ h.ids) ∨ W.heap.size ≤ k := by
    intro k hk
    have hk' : A1.map (·.block) = some k := by cases A1 <;> simp [Hdr.ids] at hk; simp [hk]
    rcases hat with e | ⟨b, e, hle⟩
    · left
      rw [hown1, hownh, hk'] at e
      cases hA : h.A with
      | none => simp [hA] at e
      | some a => simp [hA] at e; simp [Hdr.ids, hA, e]
    · right
      rw [hown1, hk'] at e
      injection e with e
      omega
  have hin : ∀ k ∈ LT.idss ls ++ l.ids, k < W.heap.size ∧ k ∉ h.ids := by
    intro k hk
    constructor
    · rcases List.mem_append.1 hk with hk | hk
      · exact own.lt k (List.mem_append_right _ hk)
      · exact lown.lt k hk
    · intro hh
      rw [List.append_assoc] at hnd
      exact (List.nodup_append.1 hnd).2.2 k hh k hk rfl
  have hmove : ∀ k ∈ LT.idss ls ++ l.ids, w1.heap[k]? = W.heap[k]? := by
    intro k hk
    refine hg.block k (hin k hk).1 (fun e => (hin k hk).2 ?_)
    rw [hownh] at e
    cases hA : h.A with
    | none => simp [hA] at e
    | some a => simp [hA] at e; simp [Hdr.ids, hA, e]
  have hidl : LT.idss (ls ++ [l]) = LT.idss ls ++ l.ids := by simp [LT.idss_flat]
  refine hk ⟨A1, c1⟩ w1 ⟨hrow, fun p hp => ?_⟩ ?_ ?_ hmove ?_
  · rcases List.mem_append.1 hp with hp | hp
    · exact (own.all p hp).move fun i hi => hmove i (List.mem_append_left _ (LT.ids_mem hp hi))
    · rw [List.mem_singleton.1 hp]
      exact lown.move fun i hi => hmove i (List.mem_append_right _ hi)
  · rw [hidl]
    have h2 : (LT.idss ls ++ l.ids).Nodup := by rw [List.append_assoc] at hnd; exact (List.nodup_append.1 hnd).2.1
    refine List.nodup_append.2 ⟨by cases A1 <;> simp [Hdr.ids], h2, ?_⟩
    intro k hk k' hk' e
    subst e
    rcases hids k hk with h3 | h3
    · exact (hin k hk').2 h3
    · have := (hin k hk').1; omega
  · rw [hidl]
    intro k hk
    rcases List.mem_append.1 hk with hk | hk
    · rcases hids k hk with h3 | h3
      · exact hge k (List.mem_append_left _ (List.mem_append_left _ h3))
      · omega
    · exact hge k (by rw [List.append_assoc]; exact List.mem_append_right _ hk)
  · exact ⟨hg.os, hg.tape, hg.output, hg.size, fun k hk => hg.block k (by omega) (fun e => by
      rw [hownh] at e
      cases hA : h.A with
      | none => simp [hA] at e
      | some a =>
        simp [hA] at e
        have := hge k (List.mem_append_left _ (List.mem_append_left _ (by simp [Hdr.ids, hA, e])))
        omega)⟩
end Go.Proofs.YtplfmpcoojkjlaaDoor
