/- Plain ground for the proofs over keys: rows in memory, located trees of values, what is read and what is owned. No program here. -/
import Derived.WalkKit
import Derived.Lib.Hide
namespace Go.Proofs.YtplfmpcoojkjlaaDoor
open Go.RowKit

/-! ### rows of cells -/
def nums8 (xs : List Int) : List Value := xs.map (Value.int .u8)
@[simp] theorem nums8_length (xs : List Int) : (nums8 xs).length = xs.length := by simp [nums8]
theorem nums8_append (xs ys : List Int) : nums8 (xs ++ ys) = nums8 xs ++ nums8 ys := by simp [nums8]
theorem nums8_get (xs : List Int) (j : Nat) (h : j < xs.length) : (nums8 xs)[j]? = some (.int .u8 xs[j]) := by simp [nums8, h]

theorem nums8_take (xs : List Int) (k : Nat) : nums8 (xs.take k) = (nums8 xs).take k := by simp [nums8]
theorem nums8_drop (xs : List Int) (k : Nat) : nums8 (xs.drop k) = (nums8 xs).drop k := by simp [nums8]
/-- The cells from A on hold cs (of no cells: whatever A is). -/
def Row (w : World) (A : Option Addr) (cs : List Value) : Prop :=
  cs = [] ∨ ∃ b o, A = some ⟨b, o, none⟩ ∧ b < w.heap.size ∧ ∀ i u, cs[i]? = some u → w.cell? ⟨b, o + i, none⟩ = some u
theorem Row.nil (w : World) (A : Option Addr) : Row w A [] := .inl rfl
theorem Row.below {w w' : World} {A : Option Addr} {cs : List Value} (h : Row w A cs) (hb : Below w.heap.size w w') : Row w' A cs := by
  rcases h with h | ⟨b, o, rfl, hlt, hc⟩
  · exact .inl h
  · exact .inr ⟨b, o, rfl, Nat.lt_of_lt_of_le hlt hb.size, fun i u hu => (hb.cell (p := ⟨b, o + i, none⟩) hlt).trans (hc i u hu)⟩
theorem Row.take {w : World} {A : Option Addr} {cs : List Value} (h : Row w A cs) (k : Nat) : Row w A (cs.take k) := by
  rcases h with h | ⟨b, o, rfl, hlt, hc⟩
  · exact .inl (by simp [h])
  · refine .inr ⟨b, o, rfl, hlt, fun i u hu => hc i u ?_⟩
    rw [List.getElem?_take] at hu
    split at hu
    · exact hu
    · cases hu
/-- Where the slice behind the first k cells begins (at the end of the capacity the address stays). -/
def cutA (A : Option Addr) (c k : Nat) : Option Addr := if c = k then A else A.map (·.add k)
theorem add_plain0 (b o k : Nat) : (⟨b, o, none⟩ : Addr).add k = ⟨b, o + k, none⟩ := by unfold Addr.add; split <;> simp_all
theorem Row.drop {w : World} {A : Option Addr} {cs : List Value} (h : Row w A cs) (c k : Nat) (hc : cs.length ≤ c) : Row w (cutA A c k) (cs.drop k) := by
  rcases h with h | ⟨b, o, rfl, hlt, hcell⟩
  · exact .inl (by simp [h])
  · by_cases hck : c = k
    · exact .inl (by rw [List.drop_eq_nil_iff]; omega)
    · refine .inr ⟨b, o + k, by simp [cutA, hck, add_plain0], hlt, fun i u hu => ?_⟩
      rw [List.getElem?_drop] at hu
      rw [Nat.add_assoc]
      exact hcell _ _ hu
theorem Row.get {w : World} {A : Option Addr} {cs : List Value} (h : Row w A cs) (hp : cs ≠ []) : ∃ b o, A = some ⟨b, o, none⟩ ∧ b < w.heap.size ∧ ∀ i u, cs[i]? = some u → w.cell? ⟨b, o + i, none⟩ = some u := by
  rcases h with h | h
  · exact absurd h hp
  · exact h
theorem Row.mono {w : World} {A : Option Addr} {cs ds : List Value} (h : Row w A (cs ++ ds)) : Row w A cs := by
  have := h.take cs.length
  simpa using this

/-- Bytes that are bytes. -/
def Byt (xs : List Int) : Prop := ∀ x ∈ xs, 0 ≤ x ∧ x < 256
theorem Byt.drop {xs : List Int} (h : Byt xs) (k : Nat) : Byt (xs.drop k) := fun x hx => h x (List.mem_of_mem_drop hx)
theorem Byt.take {xs : List Int} (h : Byt xs) (k : Nat) : Byt (xs.take k) := fun x hx => h x (List.mem_of_mem_take hx)
theorem Byt.at {xs : List Int} (h : Byt xs) (i : Nat) (hi : i < xs.length) : 0 ≤ xs[i] ∧ xs[i] < 256 := h _ (List.getElem_mem hi)
theorem Byt.cons {x : Int} {xs : List Int} (h : Byt (x :: xs)) : (0 ≤ x ∧ x < 256) ∧ Byt xs := ⟨h x (by simp), fun y hy => h y (by simp [hy])⟩
theorem Byt.append {xs ys : List Int} (h : Byt xs) (k : Byt ys) : Byt (xs ++ ys) := fun x hx => by
  rcases List.mem_append.1 hx with hx | hx
  · exact h x hx
  · exact k x hx

/-! ### located trees -/
structure Hdr where
  A : Option Addr
  cap : Nat
def Hdr.ids (h : Hdr) : List Nat := match h.A with | some a => [a.block] | none => []
def Hdr.v (h : Hdr) (n : Nat) : Value := .slice h.A n h.cap

inductive TT (σ : Type) where
  | mk (s : σ) (text : List Int) (parts : List (TT σ))
inductive LT (σ : Type) where
  | mk (s : σ) (th : Hdr) (text : List Int) (ph : Hdr) (parts : List (LT σ))
section
variable {σ : Type}
def TT.s : TT σ → σ | .mk s _ _ => s
def TT.text : TT σ → List Int | .mk _ t _ => t
def TT.parts : TT σ → List (TT σ) | .mk _ _ p => p
def LT.s : LT σ → σ | .mk s _ _ _ _ => s
def LT.th : LT σ → Hdr | .mk _ h _ _ _ => h
def LT.text : LT σ → List Int | .mk _ _ t _ _ => t
def LT.ph : LT σ → Hdr | .mk _ _ _ h _ => h
def LT.parts : LT σ → List (LT σ) | .mk _ _ _ _ p => p
mutual
def LT.pure : LT σ → TT σ
  | .mk s _ t _ ps => .mk s t (LT.pures ps)
def LT.pures : List (LT σ) → List (TT σ)
  | [] => []
  | p :: ps => p.pure :: LT.pures ps
end
mutual
def LT.ids : LT σ → List Nat
  | .mk _ th _ ph ps => th.ids ++ (ph.ids ++ LT.idss ps)
def LT.idss : List (LT σ) → List Nat
  | [] => []
  | p :: ps => p.ids ++ LT.idss ps
end
theorem LT.pures_map (ps : List (LT σ)) : LT.pures ps = ps.map LT.pure := by
  induction ps with
  | nil => rfl
  | cons p ps ih => simp [LT.pures, ih]
theorem LT.idss_flat (ps : List (LT σ)) : LT.idss ps = ps.flatMap LT.ids := by
  induction ps with
  | nil => rfl
  | cons p ps ih => simp [LT.idss, ih]
theorem LT.pures_length (ps : List (LT σ)) : (LT.pures ps).length = ps.length := by simp [LT.pures_map]
theorem LT.pure_parts (l : LT σ) : l.pure.parts = LT.pures l.parts := by cases l; rfl
theorem LT.pure_s (l : LT σ) : l.pure.s = l.s := by cases l; rfl
theorem LT.pure_text (l : LT σ) : l.pure.text = l.text := by cases l; rfl
theorem LT.pure_eq (l : LT σ) : l.pure = .mk l.s l.text (LT.pures l.parts) := by cases l; rfl
theorem LT.ids_eq (l : LT σ) : l.ids = l.th.ids ++ (l.ph.ids ++ LT.idss l.parts) := by cases l; rfl
theorem LT.ids_mem {p : LT σ} {ps : List (LT σ)} (h : p ∈ ps) {k : Nat} (hk : k ∈ p.ids) : k ∈ LT.idss ps := by
  rw [LT.idss_flat]
  exact List.mem_flatMap.2 ⟨p, h, hk⟩

/-- A node's seven cells: five of its own, the text's header, the parts' header. -/
def LT.cells (enc : σ → List Value) (l : LT σ) : List Value := enc l.s ++ [.slice l.th.A l.text.length l.th.cap, .slice l.ph.A l.parts.length l.ph.cap]
def rowCells (enc : σ → List Value) (ls : List (LT σ)) : List Value := ls.flatMap (LT.cells enc)
theorem LT.cells_length {enc : σ → List Value} (he : ∀ s, (enc s).length = 5) (l : LT σ) : (l.cells enc).length = 7 := by simp [LT.cells, he]
theorem rowCells_length {enc : σ → List Value} (he : ∀ s, (enc s).length = 5) (ls : List (LT σ)) : (rowCells enc ls).length = ls.length * 7 := by
  induction ls with
  | nil => rfl
  | cons l ls ih =>
    simp only [rowCells, List.flatMap_cons, List.length_append, LT.cells_length he, List.length_cons]
    have : (ls.flatMap (LT.cells enc)).length = ls.length * 7 := ih
    omega
theorem rowCells_append (enc : σ → List Value) (ls ms : List (LT σ)) : rowCells enc (ls ++ ms) = rowCells enc ls ++ rowCells enc ms := by simp [rowCells]
theorem rowCells_one (enc : σ → List Value) (l : LT σ) : rowCells enc [l] = l.cells enc := by simp [rowCells]
theorem rowCells_get {enc : σ → List Value} (he : ∀ s, (enc s).length = 5) : ∀ (ls : List (LT σ)) (j : Nat) (hj : j < ls.length) (i : Nat), i < 7 → (rowCells enc ls)[j * 7 + i]? = (ls[j].cells enc)[i]?
  | [], j, hj, _, _ => absurd hj (by simp)
  | l :: ls, 0, _, i, hi => by
    simp only [rowCells, List.flatMap_cons]
    rw [List.getElem?_append_left (by rw [LT.cells_length he]; omega)]
    simp
  | l :: ls, j + 1, hj, i, hi => by
    simp only [rowCells, List.flatMap_cons]
    rw [List.getElem?_append_right (by rw [LT.cells_length he]; omega), LT.cells_length he]
    have h := rowCells_get he ls j (by simpa using hj) i hi
    rw [show (j + 1) * 7 + i - 7 = j * 7 + i from by omega]
    simpa [rowCells] using h
theorem rowCells_drop {enc : σ → List Value} (he : ∀ s, (enc s).length = 5) : ∀ (ls : List (LT σ)) (k : Nat), (rowCells enc ls).drop (k * 7) = rowCells enc (ls.drop k)
  | ls, 0 => by simp
  | [], k + 1 => by simp [rowCells]
  | l :: ls, k + 1 => by
    have h := rowCells_drop he ls k
    simp only [rowCells, List.flatMap_cons, List.drop_succ_cons] at h ⊢
    rw [← h, show (k + 1) * 7 = (l.cells enc).length + k * 7 from by rw [LT.cells_length he]; omega, List.drop_append]
    simp
theorem rowCells_take {enc : σ → List Value} (he : ∀ s, (enc s).length = 5) : ∀ (ls : List (LT σ)) (k : Nat), (rowCells enc ls).take (k * 7) = rowCells enc (ls.take k)
  | ls, 0 => by simp [rowCells]
  | [], k + 1 => by simp [rowCells]
  | l :: ls, k + 1 => by
    have h := rowCells_take he ls k
    simp only [rowCells, List.flatMap_cons, List.take_succ_cons] at h ⊢
    rw [← h, show (k + 1) * 7 = (l.cells enc).length + k * 7 from by rw [LT.cells_length he]; omega, List.take_length_add_append]

/-- What is read: every text and every list of parts stands where its header says. -/
inductive LT.Rd (enc : σ → List Value) (w : World) : LT σ → Prop where
  | mk {l : LT σ} (ht : l.text.length ≤ l.th.cap) (hr : Row w l.th.A (nums8 l.text)) (hp : l.parts.length ≤ l.ph.cap) (hq : Row w l.ph.A (rowCells enc l.parts)) (hm : l.text.length ≤ 9223372036854775807 ∧ l.parts.length ≤ 9223372036854775807) (hs : ∀ p ∈ l.parts, LT.Rd enc w p) : LT.Rd enc w l
/-- A list of nodes that is read. -/
structure RdL (enc : σ → List Value) (w : World) (A : Option Addr) (ls : List (LT σ)) : Prop where
  row : Row w A (rowCells enc ls)
  all : ∀ p ∈ ls, LT.Rd enc w p
  len : ls.length ≤ 9223372036854775807
theorem LT.Rd.parts {enc : σ → List Value} {w : World} {l : LT σ} (h : l.Rd enc w) : RdL enc w l.ph.A l.parts := by
  cases h with | mk _ _ _ hq hm hs => exact ⟨hq, hs, hm.2⟩
theorem LT.Rd.textRow {enc : σ → List Value} {w : World} {l : LT σ} (h : l.Rd enc w) : Row w l.th.A (nums8 l.text) := by
  cases h with | mk _ hr _ _ _ _ => exact hr
theorem LT.Rd.textCap {enc : σ → List Value} {w : World} {l : LT σ} (h : l.Rd enc w) : l.text.length ≤ l.th.cap := by
  cases h with | mk ht _ _ _ _ _ => exact ht
theorem LT.Rd.partsCap {enc : σ → List Value} {w : World} {l : LT σ} (h : l.Rd enc w) : l.parts.length ≤ l.ph.cap := by
  cases h with | mk _ _ hp _ _ _ => exact hp
theorem LT.Rd.textLen {enc : σ → List Value} {w : World} {l : LT σ} (h : l.Rd enc w) : l.text.length ≤ 9223372036854775807 := by
  cases h with | mk _ _ _ _ hm _ => exact hm.1
theorem LT.Rd.keep {enc : σ → List Value} {w w' : World} (hb : Below w.heap.size w w') {l : LT σ} (h : l.Rd enc w) : l.Rd enc w' := by
  induction h with
  | mk ht hr hp hq hm _ ih => exact .mk ht (hr.below hb) hp (hq.below hb) hm ih
theorem RdL.below {enc : σ → List Value} {w w' : World} {A : Option Addr} {ls : List (LT σ)} (h : RdL enc w A ls) (hb : Below w.heap.size w w') : RdL enc w' A ls :=
  ⟨h.row.below hb, fun p hp => (h.all p hp).keep hb, h.len⟩
theorem RdL.nil (enc : σ → List Value) (w : World) (A : Option Addr) : RdL enc w A ([] : List (LT σ)) := ⟨.inl rfl, fun p hp => (by cases hp), (by simp)⟩
theorem RdL.take {enc : σ → List Value} (he : ∀ s, (enc s).length = 5) {w : World} {A : Option Addr} {ls : List (LT σ)} (h : RdL enc w A ls) (k : Nat) : RdL enc w A (ls.take k) :=
  ⟨by have := h.row.take (k * 7); rwa [rowCells_take he] at this, fun p hp => h.all p (List.mem_of_mem_take hp), by have := h.len; rw [List.length_take]; omega⟩
/-- Node i's cells. -/
theorem RdL.get {enc : σ → List Value} (he : ∀ s, (enc s).length = 5) {w : World} {A : Option Addr} {ls : List (LT σ)} (h : RdL enc w A ls) (i : Nat) (hi : i < ls.length) :
    ∃ b o, A = some ⟨b, o, none⟩ ∧ b < w.heap.size ∧ (∀ j u, j < 7 → (ls[i].cells enc)[j]? = some u → w.cell? ⟨b, o + (i * 7 + j), none⟩ = some u) ∧ ls[i].Rd enc w := by
  obtain ⟨b, o, rfl, hlt, hc⟩ := h.row.get (by
    intro hn
    have := congrArg List.length hn
    rw [rowCells_length he] at this
    simp at this
    omega)
  exact ⟨b, o, rfl, hlt, fun j u hj hu => hc _ u (by rw [rowCells_get he ls i hi j hj]; exact hu), h.all _ (List.getElem_mem hi)⟩

mutual
def LT.cnt : LT σ → Nat
  | .mk _ _ _ _ ps => 1 + LT.cnts ps
def LT.cnts : List (LT σ) → Nat
  | [] => 0
  | p :: ps => p.cnt + LT.cnts ps
end
theorem LT.cnt_parts (l : LT σ) : LT.cnts l.parts < l.cnt := by cases l; simp [LT.cnt, LT.parts]
theorem LT.cnt_mem {p : LT σ} : ∀ {ps : List (LT σ)}, p ∈ ps → p.cnt ≤ LT.cnts ps
  | q :: ps, h => by
    simp only [LT.cnts]
    rcases List.mem_cons.1 h with rfl | h
    · omega
    · have := LT.cnt_mem h; omega
/-! ### what is owned -/
/-- Every text and every list of parts is a row of its own block. t8, tn: the types of a byte and of a node. -/
inductive LT.Own (enc : σ → List Value) (t8 tn : TypeId) (w : World) : LT σ → Prop where
  | mk {l : LT σ} (ht : w.ownsRow 0 t8 1 (.slice l.th.A l.text.length l.th.cap) l.text.length (nums8 l.text)) (hp : w.ownsRow 0 tn 7 (.slice l.ph.A l.parts.length l.ph.cap) l.parts.length (rowCells enc l.parts)) (hs : ∀ p ∈ l.parts, LT.Own enc t8 tn w p) : LT.Own enc t8 tn w l
structure OwnL (enc : σ → List Value) (t8 tn : TypeId) (w : World) (h : Hdr) (ls : List (LT σ)) : Prop where
  row : w.ownsRow 0 tn 7 (.slice h.A ls.length h.cap) ls.length (rowCells enc ls)
  all : ∀ p ∈ ls, LT.Own enc t8 tn w p
theorem own_row {w : World} {base : Nat} {e : TypeId} {size : Nat} {A : Option Addr} {n c : Nat} {xs : List Value} (h : w.ownsRow base e size (.slice A n c) n xs) : n ≤ c ∧ Row w A xs ∧ n ≤ 9223372036854775807 := by
  obtain ⟨hl, h⟩ := h
  rcases h with ⟨h, rfl⟩ | ⟨g, cap, cur, h, _, hh, hn, hcm, hsz, ht⟩
  · injection h with h1 _ h2
    subst h1 h2
    simp at hl
    exact ⟨Nat.le_refl _, .inl hl, by omega⟩
  · injection h with h1 _ h2
    subst h1 h2
    refine ⟨hn, .inr ⟨g, 0, rfl, (Array.getElem?_eq_some_iff.1 hh).1, fun i u hu => ?_⟩, by simp only [maxLen] at hcm; omega⟩
    rw [← ht, List.getElem?_take] at hu
    split at hu
    · simp only [World.cell?, hh, Nat.zero_add]
      simpa using hu
    · cases hu
theorem LT.Own.rd {enc : σ → List Value} {t8 tn : TypeId} {w : World} {l : LT σ} (h : l.Own enc t8 tn w) : l.Rd enc w := by
  induction h with
  | mk ht hp _ ih => exact .mk (own_row ht).1 (own_row ht).2.1 (own_row hp).1 (own_row hp).2.1 ⟨(own_row ht).2.2, (own_row hp).2.2⟩ ih
theorem OwnL.rd {enc : σ → List Value} {t8 tn : TypeId} {w : World} {h : Hdr} {ls : List (LT σ)} (k : OwnL enc t8 tn w h ls) : RdL enc w h.A ls ∧ ls.length ≤ h.cap :=
  ⟨⟨(own_row k.row).2.1, fun p hp => (k.all p hp).rd, (own_row k.row).2.2⟩, (own_row k.row).1⟩
theorem ownsRow_move {w w' : World} {base : Nat} {e : TypeId} {size n : Nat} {v : Value} {xs : List Value} (h : w.ownsRow base e size v n xs) (hm : ∀ k, v.ownBlock = some k → w'.heap[k]? = w.heap[k]?) : w'.ownsRow base e size v n xs := by
  obtain ⟨h1, h2⟩ := h
  refine ⟨h1, ?_⟩
  rcases h2 with h2 | ⟨g, cap, cur, rfl, hg, hh, r⟩
  · exact .inl h2
  · exact .inr ⟨g, cap, cur, rfl, hg, (hm g (by simp [Value.ownBlock])).trans hh, r⟩
theorem Hdr.own_ids (h : Hdr) (n : Nat) {k : Nat} (hk : (Value.slice h.A n h.cap).ownBlock = some k) : k ∈ h.ids := by
  cases hA : h.A with
  | none => simp [hA, Value.ownBlock] at hk
  | some a => simp [Value.ownBlock, hA] at hk; simp [Hdr.ids, hA, hk]
theorem LT.Own.move {enc : σ → List Value} {t8 tn : TypeId} {w w' : World} {l : LT σ} (h : l.Own enc t8 tn w) (hm : ∀ k ∈ l.ids, w'.heap[k]? = w.heap[k]?) : l.Own enc t8 tn w' := by
  induction h with
  | @mk l ht hp _ ih =>
    rw [LT.ids_eq] at hm
    refine .mk (ownsRow_move ht fun k hk => hm k ?_) (ownsRow_move hp fun k hk => hm k ?_) fun p hp => ih p hp fun k hk => hm k ?_
    · exact List.mem_append_left _ (Hdr.own_ids _ _ hk)
    · exact List.mem_append_right _ (List.mem_append_left _ (Hdr.own_ids _ _ hk))
    · exact List.mem_append_right _ (List.mem_append_right _ (LT.ids_mem hp hk))
theorem OwnL.move {enc : σ → List Value} {t8 tn : TypeId} {w w' : World} {h : Hdr} {ls : List (LT σ)} (k : OwnL enc t8 tn w h ls) (hm : ∀ k, k ∈ h.ids ∨ k ∈ LT.idss ls → w'.heap[k]? = w.heap[k]?) : OwnL enc t8 tn w' h ls :=
  ⟨ownsRow_move k.row fun i hi => hm i (.inl (Hdr.own_ids _ _ hi)), fun p hp => (k.all p hp).move fun i hi => hm i (.inr (LT.ids_mem hp hi))⟩
theorem own_ids_lt {w : World} {base : Nat} {e : TypeId} {size n : Nat} {h : Hdr} {m : Nat} {xs : List Value} (k : w.ownsRow base e size (.slice h.A m h.cap) n xs) : ∀ i ∈ h.ids, base ≤ i ∧ i < w.heap.size := by
  intro i hi
  obtain ⟨_, k⟩ := k
  rcases k with ⟨k, _⟩ | ⟨g, cap, cur, k, hg, hh, _⟩
  · injection k with k1
    simp [Hdr.ids, k1] at hi
  · injection k with k1
    simp [Hdr.ids, k1] at hi
    subst hi
    exact ⟨hg, (Array.getElem?_eq_some_iff.1 hh).1⟩
theorem LT.Own.lt {enc : σ → List Value} {t8 tn : TypeId} {w : World} {l : LT σ} (h : l.Own enc t8 tn w) : ∀ i ∈ l.ids, i < w.heap.size := by
  induction h with
  | @mk l ht hp _ ih =>
    intro i hi
    rw [LT.ids_eq] at hi
    rcases List.mem_append.1 hi with hi | hi
    · exact (own_ids_lt ht i hi).2
    · rcases List.mem_append.1 hi with hi | hi
      · exact (own_ids_lt hp i hi).2
      · rw [LT.idss_flat] at hi
        obtain ⟨p, hp, hi⟩ := List.mem_flatMap.1 hi
        exact ih p hp i hi
theorem OwnL.lt {enc : σ → List Value} {t8 tn : TypeId} {w : World} {h : Hdr} {ls : List (LT σ)} (k : OwnL enc t8 tn w h ls) : ∀ i ∈ h.ids ++ LT.idss ls, i < w.heap.size := by
  intro i hi
  rcases List.mem_append.1 hi with hi | hi
  · exact (own_ids_lt k.row i hi).2
  · rw [LT.idss_flat] at hi
    obtain ⟨p, hp, hi⟩ := List.mem_flatMap.1 hi
    exact (k.all p hp).lt i hi
end

/-! ### the two kinds of nodes: the document's parts, the program's values -/
structure PS where
  kind : Int
  b : Bool
  n : Int
  re : Nat
  im : Nat
structure VS where
  kind : Int
  b : Bool
  n : Int
  real : Nat
  re : Nat
  im : Nat
def PS.enc (s : PS) : List Value := [.int .i64 s.kind, .bool s.b, .int .i64 s.n, .int .u64 s.re, .int .u64 s.im]
def VS.enc (s : VS) : List Value := [.int .i64 s.kind, .bool s.b, .int .i64 s.n, .float .f64 s.real, .complex .f64 s.re s.im]
theorem PS.enc5 (s : PS) : s.enc.length = 5 := rfl
theorem VS.enc5 (s : VS) : s.enc.length = 5 := rfl
section
variable {σ τ : Type}
mutual
def TT.map (f : σ → τ) : TT σ → TT τ
  | .mk s t ps => .mk (f s) t (TT.maps f ps)
def TT.maps (f : σ → τ) : List (TT σ) → List (TT τ)
  | [] => []
  | p :: ps => p.map f :: TT.maps f ps
end
theorem TT.maps_map (f : σ → τ) (ps : List (TT σ)) : TT.maps f ps = ps.map (TT.map f) := by
  induction ps with
  | nil => rfl
  | cons p ps ih => simp [TT.maps, ih]
theorem TT.maps_length (f : σ → τ) (ps : List (TT σ)) : (TT.maps f ps).length = ps.length := by simp [TT.maps_map]
theorem TT.maps_append (f : σ → τ) (ps qs : List (TT σ)) : TT.maps f (ps ++ qs) = TT.maps f ps ++ TT.maps f qs := by simp [TT.maps_map]
end
end Go.Proofs.YtplfmpcoojkjlaaDoor
