/- The engine's ready, Ledger, live, Export; an Open that is refused. The audit: shard, at, Ledger, Copy. -/
import Derived.Test.YtokflmiijdpchaaGreatD42
namespace Go.Proofs.YtokflmiijdpchaaGreat
open Go.RowKit
attribute [local go_sem] Oper.semAt_some
/-- An engine that stands, weakly. -/
def EnW (w : World) (sv n e : Nat) (rs : List HRow) : Prop := ∃ (d : Nat) (lg sh : Int) (s l : Value) (st : Nat) (v : Value), Eng w e d lg sh s l (.pointer (some ⟨st, 0, none⟩)) ∧ StV w st sv n v rs (fun _ => False)
theorem EnW.below {w w' : World} {sv n e : Nat} {rs : List HRow} (h : EnW w sv n e rs) (hb : Below w.heap.size w w') : EnW w' sv n e rs :=
  let ⟨d, lg, sh, s, l, st, v, h1, h2⟩ := h
  ⟨d, lg, sh, s, l, st, v, (hb.block e (Array.getElem?_eq_some_iff.1 h1).1).trans h1, h2.below hb⟩
theorem EnW.lt {w : World} {sv n e : Nat} {rs : List HRow} (h : EnW w sv n e rs) : e < w.heap.size :=
  let ⟨_, _, _, _, _, _, _, h1, _⟩ := h
  (Array.getElem?_eq_some_iff.1 h1).1
theorem eready_calls (w : World) (sv n e : Nat) (rs : List HRow) (h : EnW w sv n e rs) : Calls Tryz.prog 52 #[.pointer (some ⟨e, 0, none⟩)] w fun r w' => r = .returned (.int .i64 0) ∧ w' = w := by
  obtain ⟨d, lg, sh, s, l, st, v, he, hs⟩ := h
  have c6 : w.cell? ⟨e, 6, none⟩ = some (.bool false) := (cellD he 6).1
  clear he hs
  go_enter Tryz.func52, Tryz.ntmps52
  go_wp2
  go_ret
  exact ⟨rfl, rfl⟩
set_option maxRecDepth 100000 in
theorem eledger_calls (w : World) (sv n e : Nat) (rs : List HRow) (h : EnW w sv n e rs) (j : Nat) (r : HRow) (hr : rs[j]? = some r) (hm : rs.length ≤ 64) : Calls Tryz.prog 26 #[.pointer (some ⟨e, 0, none⟩), .int .i64 j] w fun x w' => x = .returned (.tuple #[.agg #[.int .i64 r.1, .int .i64 0, .int .i64 r.2.1], .int .i64 0]) ∧ Below w.heap.size w w' := by
  obtain ⟨W0, hW0⟩ : ∃ W0, W0 = w.alloc (.cells #[.int .i64 0, .int .i64 0, .int .i64 0] 41) := ⟨_, rfl⟩
  have hb0 : Below w.heap.size w W0 := hW0 ▸ (Below.refl _ _).alloc (Nat.le_refl _) _
  have hn0 : W0.heap[w.heap.size]? = some (.cells #[.int .i64 0, .int .i64 0, .int .i64 0] 41 (0, 0)) := hW0 ▸ heap_alloc_new w _
  have he0 := h.below hb0
  have HE := Lib.hid he0
  obtain ⟨d, lg, sh, s, l, st, v, he, hs⟩ := he0
  have c5 : W0.cell? ⟨e, 5, none⟩ = some (.pointer (some ⟨st, 0, none⟩)) := (cellD he 5).1
  have HS := Lib.hid (show _ ∧ _ ∧ _ from ⟨hs, hb0, hn0⟩)
  have hsz : w.heap.size < W0.heap.size := by rw [hW0]; simp
  clear he hs h hb0 hn0
  go_enter Tryz.func26, Tryz.ntmps26
  go_upto_region 1 with (fail)
  rw [← hW0]
  clear hW0
  go_wp2_with (first
    | (go_at_call 52; refine (eready_calls W0 sv n e rs HE.out).mono ?_; rintro x w' ⟨rfl, hw⟩; obtain rfl := hw.symm)
    | (go_at_call 53; refine (stledger_calls W0 st sv n v rs _ HS.out.1 j r hr hm).mono ?_; rintro x w1 ⟨rfl, hb1⟩; have n1 := (hb1.block _ hsz).trans HS.out.2.2; have i0 : w1.cell? ⟨w.heap.size, 0, none⟩ = some (.int .i64 0) := (cellD n1 0).1; have i1 : w1.cell? ⟨w.heap.size, 1, none⟩ = some (.int .i64 0) := (cellD n1 1).1; have i2 : w1.cell? ⟨w.heap.size, 2, none⟩ = some (.int .i64 0) := (cellD n1 2).1; have i0f : w1.frozen? ⟨w.heap.size, 0, none⟩ = false := (cellD n1 0).2; have i1f : w1.frozen? ⟨w.heap.size, 1, none⟩ = false := (cellD n1 1).2; have i2f : w1.frozen? ⟨w.heap.size, 2, none⟩ = false := (cellD n1 2).2; have H1 := Lib.hid (show _ ∧ _ from ⟨hb1, n1⟩); clear hb1 n1))
  have hn := block_set (block_set (block_set H1.out.2 0 (.int .i64 r.1)) 1 (.int .i64 0)) 2 (.int .i64 r.2.1)
  have m0 := (cellD hn 0).1
  have m1 := (cellD hn 1).1
  have m2 := (cellD hn 2).1
  simp at m0 m1 m2
  refine bodyPost_ret (v := .tuple #[.agg #[.int .i64 r.1, .int .i64 0, .int .i64 r.2.1], .int .i64 0]) (by simp [results, Tryz.results26, go_sem, m0, m1, m2]) rfl ?_
  exact ⟨rfl, (((HS.out.2.1.trans (H1.out.1.mono (by omega))).setCell (p := ⟨w.heap.size, 0, none⟩) (Nat.le_refl _) _).setCell (p := ⟨w.heap.size, 1, none⟩) (Nat.le_refl _) _).setCell (p := ⟨w.heap.size, 2, none⟩) (Nat.le_refl _) _⟩
theorem elive_calls (w : World) (sv n e : Nat) (rs : List HRow) (h : EnW w sv n e rs) : ∃ st v, StV w st sv n v rs (fun _ => False) ∧ Calls Tryz.prog 54 #[.pointer (some ⟨e, 0, none⟩)] w fun r w' => r = .returned (.pointer (some ⟨st, 0, none⟩)) ∧ w' = w := by
  obtain ⟨d, lg, sh, s, l, st, v, he, hs⟩ := h
  refine ⟨st, v, hs, ?_⟩
  have c5 : w.cell? ⟨e, 5, none⟩ = some (.pointer (some ⟨st, 0, none⟩)) := (cellD he 5).1
  clear he hs
  go_enter Tryz.func54, Tryz.ntmps54
  go_wp2
  go_ret
  exact ⟨rfl, rfl⟩
theorem eexport_calls (w : World) (sv n e : Nat) (rs : List HRow) (h : EnW w sv n e rs) (j : Nat) (r : HRow) (hr : rs[j]? = some r) (hm : rs.length ≤ 64) : Calls Tryz.prog 27 #[.pointer (some ⟨e, 0, none⟩), .int .i64 j] w fun y w' => ∃ x, y = .returned x ∧ Xp w w' r x ∧ Below w.heap.size w w' := by
  obtain ⟨st, v, hs, hl⟩ := elive_calls w sv n e rs h
  have HS := Lib.hid (show _ ∧ _ from ⟨hs, hl⟩)
  clear hs hl h
  go_enter Tryz.func27, Tryz.ntmps27
  go_wp2_with (first
    | (go_at_call 54; refine HS.out.2.mono ?_; rintro x w' ⟨rfl, hw⟩; obtain rfl := hw.symm)
    | (go_at_call 55; refine (stexport_calls w st sv n v rs _ HS.out.1 j r hr hm).mono ?_; rintro x w1 ⟨y, rfl, hx1, hb1⟩; have H1 := Lib.hid (show _ ∧ _ from ⟨hx1, hb1⟩); clear hb1 hx1))
  go_ret
  exact ⟨_, rfl, H1.out⟩
end Go.Proofs.YtokflmiijdpchaaGreat
namespace Go.Proofs.YtokflmiijdpchaaGreat
open Go.RowKit
attribute [local go_sem] Oper.semAt_some
/-- An engine of server sv of n, over m shards of which shard i is at home at H i. -/
def EnH (w : World) (sv n m : Nat) (H : Nat → Nat) (e : Nat) : Prop := ∃ rs, EnW w sv n e rs ∧ rs.length = m ∧ ∀ i r, rs[i]? = some r → okRow sv (H i) r
theorem EnH.below {w w' : World} {sv n m e : Nat} {H : Nat → Nat} (h : EnH w sv n m H e) (hb : Below w.heap.size w w') : EnH w' sv n m H e :=
  let ⟨rs, h1, h2⟩ := h
  ⟨rs, h1.below hb, h2⟩
/-- A ledger as it is laid. -/
def led (sv h : Nat) : Value := .agg #[.int .i64 (if sv = h then 1 else 0), .int .i64 0, .int .i64 h]
theorem hledger_calls (w : World) (sv n m e : Nat) (H : Nat → Nat) (h : EnH w sv n m H e) (j : Nat) (hj : j < m) (hm : m ≤ 64) : Calls Tryz.prog 26 #[.pointer (some ⟨e, 0, none⟩), .int .i64 j] w fun x w' => x = .returned (.tuple #[led sv (H j), .int .i64 0]) ∧ Below w.heap.size w w' := by
  obtain ⟨rs, h1, h2, h3⟩ := h
  have hr : rs[j]? = some rs[j] := List.getElem?_eq_getElem (by omega)
  refine (eledger_calls w sv n e rs h1 j _ hr (by omega)).mono fun x w' ⟨hx, hb⟩ => ⟨?_, hb⟩
  rcases h3 j _ hr with ⟨he, p, hp⟩ | ⟨he, hp⟩
  · rw [hx, hp, led, if_pos (by omega), ← he]
  · rw [hx, hp, led, if_neg (by omega)]
theorem hexport_own (w : World) (sv n m e : Nat) (H : Nat → Nat) (h : EnH w sv n m H e) (j : Nat) (hj : j < m) (hm : m ≤ 64) (hs : sv = H j) : Calls Tryz.prog 27 #[.pointer (some ⟨e, 0, none⟩), .int .i64 j] w fun x w' => ∃ g, x = .returned (.slice (some ⟨g, 0, none⟩) 4 4) ∧ w'.rangeAt g 0 [.int .u8 2, b0, b0, b0] ∧ w.heap.size ≤ g ∧ g < w'.heap.size ∧ Below w.heap.size w w' := by
  obtain ⟨rs, h1, h2, h3⟩ := h
  have hr : rs[j]? = some rs[j] := List.getElem?_eq_getElem (by omega)
  refine (eexport_calls w sv n e rs h1 j _ hr (by omega)).mono ?_
  rintro x w' ⟨y, rfl, hx, hb⟩
  rcases h3 j _ hr with ⟨he, p, hp⟩ | ⟨he, hp⟩
  · rw [hp] at hx
    obtain ⟨g, rfl, hg⟩ := hx
    exact ⟨g, rfl, hg.1, hg.2.1, hg.2.2, hb⟩
  · omega
theorem hexport_none (w : World) (sv n m e : Nat) (H : Nat → Nat) (h : EnH w sv n m H e) (j : Nat) (hj : j < m) (hm : m ≤ 64) (hs : sv ≠ H j) : Calls Tryz.prog 27 #[.pointer (some ⟨e, 0, none⟩), .int .i64 j] w fun x w' => x = .returned (.slice none 0 0) ∧ Below w.heap.size w w' := by
  obtain ⟨rs, h1, h2, h3⟩ := h
  have hr : rs[j]? = some rs[j] := List.getElem?_eq_getElem (by omega)
  refine (eexport_calls w sv n e rs h1 j _ hr (by omega)).mono ?_
  rintro x w' ⟨y, rfl, hx, hb⟩
  rcases h3 j _ hr with ⟨he, p, hp⟩ | ⟨he, hp⟩
  · omega
  · rw [hp] at hx
    exact ⟨congrArg _ hx, hb⟩
/-- An audit of n servers and m shards. -/
def Aud (w : World) (a n m : Nat) (H : Nat → Nat) : Prop := ∃ g cap, w.heap[a]? = some (.cells #[.int .i64 n, .int .i64 m, .slice (some ⟨g, 0, none⟩) n cap] 61 (0, 0)) ∧ g < w.heap.size ∧ ∀ sv, sv < n → ∃ e, w.cell? ⟨g, sv, none⟩ = some (.pointer (some ⟨e, 0, none⟩)) ∧ EnH w sv n m H e
theorem Aud.below {w w' : World} {a n m : Nat} {H : Nat → Nat} (h : Aud w a n m H) (hb : Below w.heap.size w w') : Aud w' a n m H :=
  let ⟨g, cap, h1, h2, h3⟩ := h
  ⟨g, cap, (hb.block a (Array.getElem?_eq_some_iff.1 h1).1).trans h1, Nat.lt_of_lt_of_le h2 hb.size, fun sv hs => let ⟨e, h4, h5⟩ := h3 sv hs; ⟨e, (hb.cell (p := ⟨g, sv, none⟩) h2).trans h4, h5.below hb⟩⟩
theorem Aud.lt {w : World} {a n m : Nat} {H : Nat → Nat} (h : Aud w a n m H) : a < w.heap.size :=
  let ⟨_, _, h1, _⟩ := h
  (Array.getElem?_eq_some_iff.1 h1).1
theorem Aud.two {w : World} {a n m : Nat} {H : Nat → Nat} (h : Aud w a n m H) : w.cell? ⟨a, 0, none⟩ = some (.int .i64 n) ∧ w.cell? ⟨a, 1, none⟩ = some (.int .i64 m) :=
  let ⟨_, _, h1, _⟩ := h
  ⟨(cellD h1 0).1, (cellD h1 1).1⟩
theorem ashard_true (w : World) (a n m : Nat) (H : Nat → Nat) (h : Aud w a n m H) (x : Nat) (hx : x < m) : Calls Tryz.prog 21 #[.pointer (some ⟨a, 0, none⟩), .int .i64 x] w fun r w' => r = .returned (.bool true) ∧ w' = w := by
  obtain ⟨-, c1⟩ := h.two
  clear h
  have hd : decide (x < m) = true := by simpa using hx
  go_enter Tryz.func21, Tryz.ntmps21
  go_wp2
  go_ret
  exact ⟨by simp, rfl⟩
theorem ashard_false (w : World) (a n m : Nat) (H : Nat → Nat) (h : Aud w a n m H) (x : Nat) (hx : m ≤ x) : Calls Tryz.prog 21 #[.pointer (some ⟨a, 0, none⟩), .int .i64 x] w fun r w' => r = .returned (.bool false) ∧ w' = w := by
  obtain ⟨-, c1⟩ := h.two
  clear h
  go_enter Tryz.func21, Tryz.ntmps21
  go_wp2
  go_ret
  exact ⟨by simp [hx], rfl⟩
theorem ashard_nil (w : World) (x : Int) : Calls Tryz.prog 21 #[.pointer none, .int .i64 x] w fun r w' => r = .returned (.bool false) ∧ w' = w := by
  go_enter Tryz.func21, Tryz.ntmps21
  go_wp2
  go_ret
  exact ⟨rfl, rfl⟩
theorem aat_true (w : World) (a n m : Nat) (H : Nat → Nat) (h : Aud w a n m H) (sv x : Nat) (hs : sv < n) (hx : x < m) : Calls Tryz.prog 23 #[.pointer (some ⟨a, 0, none⟩), .int .i64 sv, .int .i64 x] w fun r w' => (∃ e, r = .returned (.tuple #[.pointer (some ⟨e, 0, none⟩), .int .i64 0]) ∧ EnH w sv n m H e) ∧ w' = w := by
  have HA := Lib.hid h
  obtain ⟨g, cap, h1, h2, h3⟩ := h
  have c0 : w.cell? ⟨a, 0, none⟩ = some (.int .i64 n) := (cellD h1 0).1
  have c2 : w.cell? ⟨a, 2, none⟩ = some (.slice (some ⟨g, 0, none⟩) n cap) := (cellD h1 2).1
  obtain ⟨e, h4, h5⟩ := h3 sv hs
  have HE := Lib.hid h5
  clear h1 h3 h5
  have hd : decide (n ≤ sv) = false := by simp; omega
  go_enter Tryz.func23, Tryz.ntmps23
  go_wp2_with (first
    | (go_at_call 21; refine (ashard_true w a n m H HA.out x hx).mono ?_; rintro y w' ⟨rfl, hw⟩; obtain rfl := hw.symm))
  go_ret2
  exact ⟨⟨e, rfl, HE.out⟩, rfl⟩
theorem aat_nil (w : World) (sv x : Int) : Calls Tryz.prog 23 #[.pointer none, .int .i64 sv, .int .i64 x] w fun r w' => r = .returned (.tuple #[.pointer none, .int .i64 1]) ∧ w' = w := by
  go_enter Tryz.func23, Tryz.ntmps23
  go_wp2
  go_ret2
  exact ⟨rfl, rfl⟩
theorem aat_server (w : World) (a n m : Nat) (H : Nat → Nat) (h : Aud w a n m H) (sv x : Nat) (hs : n ≤ sv) : Calls Tryz.prog 23 #[.pointer (some ⟨a, 0, none⟩), .int .i64 sv, .int .i64 x] w fun r w' => r = .returned (.tuple #[.pointer none, .int .i64 2]) ∧ w' = w := by
  obtain ⟨c0, -⟩ := h.two
  have hd : decide (n ≤ sv) = true := by simpa using hs
  clear h
  go_enter Tryz.func23, Tryz.ntmps23
  go_wp2
  go_ret2
  exact ⟨rfl, rfl⟩
theorem aat_shard (w : World) (a n m : Nat) (H : Nat → Nat) (h : Aud w a n m H) (sv x : Nat) (hs : sv < n) (hx : m ≤ x) : Calls Tryz.prog 23 #[.pointer (some ⟨a, 0, none⟩), .int .i64 sv, .int .i64 x] w fun r w' => r = .returned (.tuple #[.pointer none, .int .i64 2]) ∧ w' = w := by
  obtain ⟨c0, -⟩ := h.two
  have HA := Lib.hid h
  have hd : decide (n ≤ sv) = false := by simp; omega
  clear h
  go_enter Tryz.func23, Tryz.ntmps23
  go_wp2_with (first
    | (go_at_call 21; refine (ashard_false w a n m H HA.out x hx).mono ?_; rintro y w' ⟨rfl, hw⟩; obtain rfl := hw.symm))
  go_ret2
  exact ⟨rfl, rfl⟩
/-- Where a setting has been refused. -/
def Bad (w : World) (a sv x : Value) (k : Int) : Prop := Calls Tryz.prog 23 #[a, sv, x] w fun r w' => r = .returned (.tuple #[.pointer none, .int .i64 k]) ∧ w' = w
set_option maxRecDepth 100000 in
theorem aledger_calls (w : World) (a n m : Nat) (H : Nat → Nat) (h : Aud w a n m H) (sv x : Nat) (hs : sv < n) (hx : x < m) (hm : m ≤ 64) : Calls Tryz.prog 9 #[.pointer (some ⟨a, 0, none⟩), .int .i64 sv, .int .i64 x] w fun r w' => r = .returned (.tuple #[led sv (H x), .int .i64 0]) ∧ Below w.heap.size w w' := by
  obtain ⟨W0, hW0⟩ : ∃ W0, W0 = w.alloc (.cells #[.int .i64 0, .int .i64 0, .int .i64 0] 41) := ⟨_, rfl⟩
  have hb0 : Below w.heap.size w W0 := hW0 ▸ (Below.refl _ _).alloc (Nat.le_refl _) _
  have hn0 : W0.heap[w.heap.size]? = some (.cells #[.int .i64 0, .int .i64 0, .int .i64 0] 41 (0, 0)) := hW0 ▸ heap_alloc_new w _
  have hsz : w.heap.size < W0.heap.size := by rw [hW0]; simp
  have HA := Lib.hid (show _ ∧ _ ∧ _ from ⟨h.below hb0, hb0, hn0⟩)
  clear h hb0 hn0
  obtain ⟨ph, hph⟩ : ∃ ph : Int, ph = (if sv = H x then 1 else 0) := ⟨_, rfl⟩
  have hL : led sv (H x) = .agg #[.int .i64 ph, .int .i64 0, .int .i64 (H x)] := by rw [hph]; rfl
  rw [hL]
  have HH := Lib.hid (show _ ∧ _ from ⟨hph, hL⟩)
  clear hph hL
  go_enter Tryz.func9, Tryz.ntmps9
  go_upto_region 1 with (fail)
  rw [← hW0]
  clear hW0
  go_wp2_with (first
    | (go_at_call 23; refine (aat_true W0 a n m H HA.out.1 sv x hs hx).mono ?_; rintro y w' ⟨⟨e, rfl, he⟩, hw⟩; obtain rfl := hw.symm; have HE := Lib.hid he; clear he)
    | (go_at_call 26; refine (hledger_calls W0 sv n m e H HE.out x hx hm).mono ?_; rw [HH.out.2]; rintro y w1 ⟨rfl, hb1⟩; have n1 := (hb1.block _ hsz).trans HA.out.2.2; have i0 : w1.cell? ⟨w.heap.size, 0, none⟩ = some (.int .i64 0) := (cellD n1 0).1; have i1 : w1.cell? ⟨w.heap.size, 1, none⟩ = some (.int .i64 0) := (cellD n1 1).1; have i2 : w1.cell? ⟨w.heap.size, 2, none⟩ = some (.int .i64 0) := (cellD n1 2).1; have i0f : w1.frozen? ⟨w.heap.size, 0, none⟩ = false := (cellD n1 0).2; have i1f : w1.frozen? ⟨w.heap.size, 1, none⟩ = false := (cellD n1 1).2; have i2f : w1.frozen? ⟨w.heap.size, 2, none⟩ = false := (cellD n1 2).2; have H1 := Lib.hid (show _ ∧ _ from ⟨hb1, n1⟩); clear hb1 n1))
  have hn := block_set (block_set (block_set H1.out.2 0 (.int .i64 ph)) 1 (.int .i64 0)) 2 (.int .i64 (H x))
  have m0 := (cellD hn 0).1
  have m1 := (cellD hn 1).1
  have m2 := (cellD hn 2).1
  simp at m0 m1 m2
  refine bodyPost_ret (v := .tuple #[.agg #[.int .i64 ph, .int .i64 0, .int .i64 (H x)], .int .i64 0]) (by simp [results, Tryz.results9, go_sem, m0, m1, m2]) rfl ?_
  exact ⟨rfl, (((HA.out.2.1.trans (H1.out.1.mono (by omega))).setCell (p := ⟨w.heap.size, 0, none⟩) (Nat.le_refl _) _).setCell (p := ⟨w.heap.size, 1, none⟩) (Nat.le_refl _) _).setCell (p := ⟨w.heap.size, 2, none⟩) (Nat.le_refl _) _⟩
set_option maxRecDepth 100000 in
theorem aledger_bad (w : World) (a sv x : Value) (k : Int) (hk : k = 1 ∨ k = 2) (h : ∀ W, Below w.heap.size w W → Bad W a sv x k) : Calls Tryz.prog 9 #[a, sv, x] w fun r w' => r = .returned (.tuple #[.agg #[.int .i64 0, .int .i64 0, .int .i64 0], .int .i64 k]) ∧ Below w.heap.size w w' := by
  have hb0 : ∀ o : Obj, Below w.heap.size w (w.alloc o) := fun o => (Below.refl _ _).alloc (Nat.le_refl _) _
  have HA := Lib.hid (show _ ∧ _ from ⟨h, hb0⟩)
  clear h hb0
  rcases hk with rfl | rfl
  all_goals
    go_enter Tryz.func9, Tryz.ntmps9
    go_wp2_with (first
      | (go_at_call 23; refine (HA.out.1 _ (HA.out.2 _)).mono ?_; rintro y w' ⟨rfl, hw⟩; obtain rfl := hw.symm))
    refine bodyPost_ret (v := .tuple #[.agg #[.int .i64 0, .int .i64 0, .int .i64 0], .int .i64 _]) (by simp [results, Tryz.results9, go_sem]; rfl) rfl ?_
    exact ⟨rfl, HA.out.2 _⟩
theorem acopy_own (w : World) (a n m : Nat) (H : Nat → Nat) (h : Aud w a n m H) (sv x : Nat) (hs : sv < n) (hx : x < m) (hm : m ≤ 64) (hh : sv = H x) : Calls Tryz.prog 10 #[.pointer (some ⟨a, 0, none⟩), .int .i64 sv, .int .i64 x] w fun r w' => ∃ g, r = .returned (.tuple #[.slice (some ⟨g, 0, none⟩) 4 4, .int .i64 0]) ∧ w'.rangeAt g 0 [.int .u8 2, b0, b0, b0] ∧ w.heap.size ≤ g ∧ g < w'.heap.size ∧ Below w.heap.size w w' := by
  have HA := Lib.hid h
  have HH := Lib.hid hh
  clear h hh
  go_enter Tryz.func10, Tryz.ntmps10
  go_wp2_with (first
    | (go_at_call 23; refine (aat_true w a n m H HA.out sv x hs hx).mono ?_; rintro y w' ⟨⟨e, rfl, he⟩, hw⟩; obtain rfl := hw.symm; have HE := Lib.hid he; clear he)
    | (go_at_call 27; refine (hexport_own w sv n m e H HE.out x hx hm HH.out).mono ?_; rintro y w1 ⟨g, rfl, hr, hg, hg1, hb⟩; have H1 := Lib.hid (show _ ∧ _ ∧ _ ∧ _ from ⟨hr, hg, hg1, hb⟩); clear hr hg hg1 hb))
  go_ret2
  exact ⟨g, rfl, H1.out⟩
theorem acopy_none (w : World) (a n m : Nat) (H : Nat → Nat) (h : Aud w a n m H) (sv x : Nat) (hs : sv < n) (hx : x < m) (hm : m ≤ 64) (hh : sv ≠ H x) : Calls Tryz.prog 10 #[.pointer (some ⟨a, 0, none⟩), .int .i64 sv, .int .i64 x] w fun r w' => r = .returned (.tuple #[.slice none 0 0, .int .i64 290]) ∧ Below w.heap.size w w' := by
  have HA := Lib.hid h
  have HH := Lib.hid hh
  clear h hh
  go_enter Tryz.func10, Tryz.ntmps10
  go_wp2_with (first
    | (go_at_call 23; refine (aat_true w a n m H HA.out sv x hs hx).mono ?_; rintro y w' ⟨⟨e, rfl, he⟩, hw⟩; obtain rfl := hw.symm; have HE := Lib.hid he; clear he)
    | (go_at_call 27; refine (hexport_none w sv n m e H HE.out x hx hm HH.out).mono ?_; rintro y w1 ⟨rfl, hb⟩; have H1 := Lib.hid hb; clear hb))
  go_ret2
  exact ⟨rfl, H1.out⟩
theorem acopy_bad (w : World) (a sv x : Value) (k : Int) (hk : k = 1 ∨ k = 2) (h : Bad w a sv x k) : Calls Tryz.prog 10 #[a, sv, x] w fun r w' => r = .returned (.tuple #[.slice none 0 0, .int .i64 k]) ∧ w' = w := by
  have HA := Lib.hid h
  clear h
  rcases hk with rfl | rfl
  all_goals
    go_enter Tryz.func10, Tryz.ntmps10
    go_wp2_with (first
      | (go_at_call 23; refine (show Calls _ _ _ _ _ from HA.out).mono ?_; rintro y w' ⟨rfl, hw⟩; obtain rfl := hw.symm))
    go_ret2
    exact ⟨rfl, rfl⟩
end Go.Proofs.YtokflmiijdpchaaGreat
