/- The program's reading of one value: nothing, bools, ints. -/
import Derived.Test.YtplfmpcoojkjlaaDoorK3
namespace Go.Proofs.YtplfmpcoojkjlaaDoor
open Go.RowKit Go.Proofs.YtplfmpcoojkjlaaDoorW.PrintWords
theorem At.alloc {w : World} {b o : Nat} {cs : List Value} (h : At w b o cs) (O : Obj) : At (w.alloc O) b o cs := h.below ((Below.refl _ _).alloc (Nat.le_refl _) _)
theorem At.drew {w : World} {b o : Nat} {cs : List Value} (h : At w b o cs) : At w.drew b o cs := h
theorem At.setCell {w : World} {b o : Nat} {cs : List Value} (h : At w b o cs) {p : Addr} (hp : b ≠ p.block) (u : Value) : At (w.setCell p u) b o cs :=
  ⟨by have := h.1; simpa [World.setCell] using this, fun i u' hu => (World.cell?_of_block (w := w) (Below.heap_setCell w p u b hp)).trans (h.2 i u' hu)⟩
def TakePost (w : World) (b f : Nat) (xs : List Int) (deep : Nat) (e : Ending) (w' : World) : Prop :=
  Below w.heap.size w w' ∧ ∃ (l : LT VS) (r : Value), (∃ er, e = .returned (.tuple #[.agg (l.cells VS.enc).toArray, r, .int .i64 er]) ∧ match takeS f xs deep with
    | .err er' => er = er' ∧ er' ≠ 0
    | .ok (p, rest) => er = 0 ∧ l.pure = p.map PS.ans ∧ l.Own VS.enc 5 46 w' ∧ l.ids.Nodup ∧ (∀ k ∈ l.ids, w.heap.size ≤ k) ∧ ∃ o c, r = .slice (some ⟨b, o, none⟩) rest.length c ∧ At w' b o (nums8 rest) ∧ rest.length ≤ c)
def leaf (s : VS) : LT VS := .mk s ⟨none, 0⟩ [] ⟨none, 0⟩ []
theorem leaf_own (s : VS) (w : World) : (leaf s).Own VS.enc 5 46 w := .mk ⟨rfl, .inl ⟨rfl, rfl⟩⟩ ⟨rfl, .inl ⟨rfl, rfl⟩⟩ (fun p hp => by cases hp)
/-- A value without texts and parts. -/
theorem TakePost.leaf {w w' : World} {b f : Nat} {xs : List Int} {deep : Nat} {s : PS} {rest : List Int} {o c : Nat} (hb : Below w.heap.size w w') (hs : takeS f xs deep = .ok (.mk s [] [], rest)) (hat : At w' b o (nums8 rest)) (hc : rest.length ≤ c) :
    TakePost w b f xs deep (.returned (.tuple #[.agg ((leaf s.ans).cells VS.enc).toArray, .slice (some ⟨b, o, none⟩) rest.length c, .int .i64 0])) w' := by
  refine ⟨hb, _, _, _, rfl, ?_⟩
  rw [hs]
  exact ⟨rfl, rfl, leaf_own _ _, by simp [Go.Proofs.YtplfmpcoojkjlaaDoor.leaf, LT.ids, Hdr.ids, LT.idss], by simp [Go.Proofs.YtplfmpcoojkjlaaDoor.leaf, LT.ids, Hdr.ids, LT.idss], o, c, rfl, hat, hc⟩
theorem TakePost.bad {w w' : World} {b f : Nat} {xs : List Int} {deep : Nat} {er : Int} (hb : Below w.heap.size w w') (hs : takeS f xs deep = .err er) (h0 : er ≠ 0) :
    TakePost w b f xs deep (.returned (.tuple #[.agg ((Go.Proofs.YtplfmpcoojkjlaaDoor.leaf ⟨0, false, 0, 0, 0, 0⟩).cells VS.enc).toArray, .slice none 0 0, .int .i64 er])) w' := by
  refine ⟨hb, _, _, _, rfl, ?_⟩
  rw [hs]
  exact ⟨rfl, h0⟩
theorem h3a (w : World) (A B C : Obj) : (((w.alloc A).alloc B).alloc C).drew.heap[w.heap.size]? = some A := blk_drew (blk_alloc (blk_alloc (blk_new w A) B) C)
theorem h3b (w : World) (A B C : Obj) : (((w.alloc A).alloc B).alloc C).drew.heap[w.heap.size + 1]? = some B := by
  have := blk_drew (blk_alloc (blk_new (w.alloc A) B) C); simpa using this
theorem h3c (w : World) (A B C : Obj) : (((w.alloc A).alloc B).alloc C).drew.heap[w.heap.size + 1 + 1]? = some C := by
  have := blk_drew (blk_new ((w.alloc A).alloc B) C); simpa using this
set_option maxRecDepth 100000 in
set_option maxHeartbeats 1000000 in
theorem take_none (f : Nat) (w : World) (b o : Nat) (q : List Int) (c : Nat) (deep : Nat) (hat : At w b o (nums8 (1 :: q))) (hx : Byt (1 :: q)) (hcap : q.length + 1 ≤ c) (hm : q.length ≤ 1099511627776) :
    Calls Tryd.prog 42 #[.slice (some ⟨b, o, none⟩) (q.length + 1) c, .int .i64 deep] w (TakePost w b (f + 1) (1 :: q) deep) := by
  obtain ⟨i0, hi, hz0, hsz, hby⟩ := info_parts info5
  have hc2 := cutFrom 24 5 Tryd.underlying24 hi hsz (some ⟨b, o, none⟩) (q.length + 1) c 1 1 rfl (by omega)
  rw [cutA_some, Nat.add_sub_cancel] at hc2
  have hpos : 0 < q.length + 1 := by omega
  have hlt := hat.1
  have hcell : ∀ O1 O2, ((w.alloc O1).alloc O2).cell? ⟨b, o, none⟩ = some (.int .u8 1) := fun O1 O2 => ((hat.alloc O1).alloc O2).2 0 _ rfl
  have HI := Lib.hid (show Tryd.prog.info? 5 = some i0 ∧ i0.size = 1 from ⟨hi, hsz⟩)
  have hq : At w b (cutO o c 1) (nums8 q) := by have := hat.drop c 1 (by simpa [nums8] using hcap); simpa [nums8] using this
  have HQ := Lib.hid hq
  have HX := Lib.hid hx.cons.2
  clear hi hz0 hsz hby hat hq hx
  go_enter Tryd.func42, Tryd.ntmps42
  go_wp2
  go_region
  go_wp2
  go_region
  go_wp2
  refine bodyPost_ret (v := .tuple #[.agg #[.int .i64 1, .bool false, .int .i64 0, .float .f64 0, .complex .f64 0 0, .slice none 0 0, .slice none 0 0], .slice (some ⟨b, cutO o c 1, none⟩) q.length (c - 1), .int .i64 0]) (by simp [results, Tryd.results42, go_sem]) rfl ?_
  exact TakePost.leaf (s := .of 1) (by repeat (first | exact Below.refl _ _ | apply Below.drew | refine Below.alloc ?_ (by first | (simp; done) | (simp; omega)) _ | refine Below.setCell ?_ (by first | (simp; done) | (simp; omega)) _)) (by simp [takeS]) (by repeat (first | exact HQ.out | apply At.drew | apply At.alloc)) (by omega)
set_option maxRecDepth 100000 in
set_option maxHeartbeats 1000000 in
theorem take_bool_none (f : Nat) (w : World) (b o : Nat) (q : List Int) (c : Nat) (deep : Nat) (hat : At w b o (nums8 (2 :: q))) (hx : Byt (2 :: q)) (hcap : q.length + 1 ≤ c) (hm : q.length ≤ 1099511627776) (hq0 : q = []) :
    Calls Tryd.prog 42 #[.slice (some ⟨b, o, none⟩) (q.length + 1) c, .int .i64 deep] w (TakePost w b (f + 1) (2 :: q) deep) := by
  obtain ⟨i0, hi, hz0, hsz, hby⟩ := info_parts info5
  have hc2 := cutFrom 24 5 Tryd.underlying24 hi hsz (some ⟨b, o, none⟩) (q.length + 1) c 1 1 rfl (by omega)
  rw [cutA_some, Nat.add_sub_cancel] at hc2
  have hpos : 0 < q.length + 1 := by omega
  have hlt := hat.1
  have hcell : ∀ O1 O2, ((w.alloc O1).alloc O2).cell? ⟨b, o, none⟩ = some (.int .u8 2) := fun O1 O2 => ((hat.alloc O1).alloc O2).2 0 _ rfl
  have HI := Lib.hid (show Tryd.prog.info? 5 = some i0 ∧ i0.size = 1 from ⟨hi, hsz⟩)
  have hq : At w b (cutO o c 1) (nums8 q) := by have := hat.drop c 1 (by simpa [nums8] using hcap); simpa [nums8] using this
  have HQ := Lib.hid hq
  have HX := Lib.hid hx.cons.2
  clear hi hz0 hsz hby hat hq hx
  go_enter Tryd.func42, Tryd.ntmps42
  have hle : q.length ≤ 0 := by rw [hq0]; simp
  have HE := Lib.hid hq0
  clear hq0
  go_wp2
  go_region
  go_wp2
  refine bodyPost_ret (v := .tuple #[.agg #[.int .i64 0, .bool false, .int .i64 0, .float .f64 0, .complex .f64 0 0, .slice none 0 0, .slice none 0 0], .slice none 0 0, .int .i64 40]) (by simp [results, Tryd.results42, go_sem]) rfl ?_
  exact TakePost.bad (by repeat (first | exact Below.refl _ _ | apply Below.drew | refine Below.alloc ?_ (by first | (simp; done) | (simp; omega)) _ | refine Below.setCell ?_ (by first | (simp; done) | (simp; omega)) _)) (by rw [HE.out]; simp [takeS]) (by omega)
set_option maxRecDepth 100000 in
set_option maxHeartbeats 1000000 in
theorem take_bool_bad (f : Nat) (w : World) (b o : Nat) (q : List Int) (c : Nat) (deep : Nat) (hat : At w b o (nums8 (2 :: q))) (hx : Byt (2 :: q)) (hcap : q.length + 1 ≤ c) (hm : q.length ≤ 1099511627776) (x : Int) (r : List Int) (hq0 : q = x :: r) (hb2 : 2 ≤ x) :
    Calls Tryd.prog 42 #[.slice (some ⟨b, o, none⟩) (q.length + 1) c, .int .i64 deep] w (TakePost w b (f + 1) (2 :: q) deep) := by
  obtain ⟨i0, hi, hz0, hsz, hby⟩ := info_parts info5
  have hc2 := cutFrom 24 5 Tryd.underlying24 hi hsz (some ⟨b, o, none⟩) (q.length + 1) c 1 1 rfl (by omega)
  rw [cutA_some, Nat.add_sub_cancel] at hc2
  have hpos : 0 < q.length + 1 := by omega
  have hlt := hat.1
  have hcell : ∀ O1 O2, ((w.alloc O1).alloc O2).cell? ⟨b, o, none⟩ = some (.int .u8 2) := fun O1 O2 => ((hat.alloc O1).alloc O2).2 0 _ rfl
  have HI := Lib.hid (show Tryd.prog.info? 5 = some i0 ∧ i0.size = 1 from ⟨hi, hsz⟩)
  have hq : At w b (cutO o c 1) (nums8 q) := by have := hat.drop c 1 (by simpa [nums8] using hcap); simpa [nums8] using this
  have HQ := Lib.hid hq
  have HX := Lib.hid hx.cons.2
  clear hi hz0 hsz hby hat hq hx
  go_enter Tryd.func42, Tryd.ntmps42
  have hcell2 : ∀ O1 O2 O3, (((w.alloc O1).alloc O2).alloc O3).cell? ⟨b, cutO o c 1, none⟩ = some (.int .u8 x) := fun O1 O2 O3 => (((HQ.out.alloc O1).alloc O2).alloc O3).2 0 _ (by rw [hq0]; rfl)
  have hx2 := (HX.out x (by rw [hq0]; simp)).2
  have hlen : 0 < q.length := by rw [hq0]; simp
  have hbd : decide (x < 2) = false := by simp; omega
  have HE := Lib.hid hq0
  clear hq0
  go_wp2
  go_region
  go_wp2
  refine bodyPost_ret (v := .tuple #[.agg #[.int .i64 0, .bool false, .int .i64 0, .float .f64 0, .complex .f64 0 0, .slice none 0 0, .slice none 0 0], .slice none 0 0, .int .i64 40]) (by simp [results, Tryd.results42, go_sem]) rfl ?_
  exact TakePost.bad (by repeat (first | exact Below.refl _ _ | apply Below.drew | refine Below.alloc ?_ (by first | (simp; done) | (simp; omega)) _ | refine Below.setCell ?_ (by first | (simp; done) | (simp; omega)) _)) (by rw [HE.out]; simp [takeS]; omega) (by omega)
set_option maxRecDepth 100000 in
set_option maxHeartbeats 1000000 in
theorem take_bool (f : Nat) (w : World) (b o : Nat) (q : List Int) (c : Nat) (deep : Nat) (hat : At w b o (nums8 (2 :: q))) (hx : Byt (2 :: q)) (hcap : q.length + 1 ≤ c) (hm : q.length ≤ 1099511627776) (x : Int) (r : List Int) (hq0 : q = x :: r) (hb2 : x < 2) :
    Calls Tryd.prog 42 #[.slice (some ⟨b, o, none⟩) (q.length + 1) c, .int .i64 deep] w (TakePost w b (f + 1) (2 :: q) deep) := by
  obtain ⟨i0, hi, hz0, hsz, hby⟩ := info_parts info5
  have hc2 := cutFrom 24 5 Tryd.underlying24 hi hsz (some ⟨b, o, none⟩) (q.length + 1) c 1 1 rfl (by omega)
  rw [cutA_some, Nat.add_sub_cancel] at hc2
  have hpos : 0 < q.length + 1 := by omega
  have hlt := hat.1
  have hcell : ∀ O1 O2, ((w.alloc O1).alloc O2).cell? ⟨b, o, none⟩ = some (.int .u8 2) := fun O1 O2 => ((hat.alloc O1).alloc O2).2 0 _ rfl
  have HI := Lib.hid (show Tryd.prog.info? 5 = some i0 ∧ i0.size = 1 from ⟨hi, hsz⟩)
  have hq : At w b (cutO o c 1) (nums8 q) := by have := hat.drop c 1 (by simpa [nums8] using hcap); simpa [nums8] using this
  have HQ := Lib.hid hq
  have HX := Lib.hid hx.cons.2
  clear hi hz0 hsz hby hat hq hx
  go_enter Tryd.func42, Tryd.ntmps42
  have hcell2 : ∀ O1 O2 O3, (((w.alloc O1).alloc O2).alloc O3).cell? ⟨b, cutO o c 1, none⟩ = some (.int .u8 x) := fun O1 O2 O3 => (((HQ.out.alloc O1).alloc O2).alloc O3).2 0 _ (by rw [hq0]; rfl)
  have hx2 := (HX.out x (by rw [hq0]; simp)).1
  have hlen : q.length = r.length + 1 := by rw [hq0]; simp
  have hbd : decide (x < 2) = true := by simp; omega
  have hc3 := cutFrom 24 5 Tryd.underlying24 HI.out.1 HI.out.2 (some ⟨b, cutO o c 1, none⟩) (r.length + 1) (c - 1) 1 1 rfl (by omega)
  rw [cutA_some, Nat.add_sub_cancel] at hc3
  have hr : At w b (cutO (cutO o c 1) (c - 1) 1) (nums8 r) := by have := HQ.out.drop (c - 1) 1 (by simp; omega); rw [hq0] at this; simpa [nums8] using this
  have HR := Lib.hid hr
  have HE := Lib.hid hq0
  clear hq0 hr
  rw [hlen] at hc2 hpos ⊢
  have HLEN := Lib.hid hlen
  clear hlen
  go_wp2
  go_region
  go_wp2
  go_region
  go_wp2
  go_region
  go_wp2
  refine bodyPost_ret (v := .tuple #[.agg #[.int .i64 2, .bool (x == 1), .int .i64 0, .float .f64 0, .complex .f64 0 0, .slice none 0 0, .slice none 0 0], .slice (some ⟨b, cutO (cutO o c 1) (c - 1) 1, none⟩) r.length (c - 1 - 1), .int .i64 0]) (by simp [results, Tryd.results42, go_sem]) rfl ?_
  exact TakePost.leaf (s := ⟨2, x == 1, 0, 0, 0⟩) (by repeat (first | exact Below.refl _ _ | apply Below.drew | refine Below.alloc ?_ (by first | (simp; done) | (simp; omega)) _ | refine Below.setCell ?_ (by first | (simp; done) | (simp; omega)) _)) (by rw [HE.out]; simp [takeS]; omega) (by repeat (first | exact HR.out | apply At.drew | apply At.alloc)) (by have := HLEN.out; omega)
set_option maxRecDepth 100000 in
set_option maxHeartbeats 1000000 in
theorem take_int_bad (f : Nat) (w : World) (b o : Nat) (q : List Int) (c : Nat) (deep : Nat) (hat : At w b o (nums8 (3 :: q))) (hx : Byt (3 :: q)) (hcap : q.length + 1 ≤ c) (hm : q.length ≤ 1099511627776) (h8 : q.length < 8) :
    Calls Tryd.prog 42 #[.slice (some ⟨b, o, none⟩) (q.length + 1) c, .int .i64 deep] w (TakePost w b (f + 1) (3 :: q) deep) := by
  obtain ⟨i0, hi, hz0, hsz, hby⟩ := info_parts info5
  have hc2 := cutFrom 24 5 Tryd.underlying24 hi hsz (some ⟨b, o, none⟩) (q.length + 1) c 1 1 rfl (by omega)
  rw [cutA_some, Nat.add_sub_cancel] at hc2
  have hpos : 0 < q.length + 1 := by omega
  have hlt := hat.1
  have hcell : ∀ O1 O2, ((w.alloc O1).alloc O2).cell? ⟨b, o, none⟩ = some (.int .u8 3) := fun O1 O2 => ((hat.alloc O1).alloc O2).2 0 _ rfl
  have HI := Lib.hid (show Tryd.prog.info? 5 = some i0 ∧ i0.size = 1 from ⟨hi, hsz⟩)
  have hq : At w b (cutO o c 1) (nums8 q) := by have := hat.drop c 1 (by simpa [nums8] using hcap); simpa [nums8] using this
  have HQ := Lib.hid hq
  have HX := Lib.hid hx.cons.2
  clear hi hz0 hsz hby hat hq hx
  go_enter Tryd.func42, Tryd.ntmps42
  go_wp2
  go_region
  go_wp2_with fail
  refine (number_short _ _ _ _ _ (h3a _ _ _ _) h8).mono ?_
  rintro e w1 ⟨rfl, rfl⟩
  go_wp2
  refine bodyPost_ret (v := .tuple #[.agg #[.int .i64 0, .bool false, .int .i64 0, .float .f64 0, .complex .f64 0 0, .slice none 0 0, .slice none 0 0], .slice none 0 0, .int .i64 40]) (by simp [results, Tryd.results42, go_sem]) rfl ?_
  exact TakePost.bad (by repeat (first | exact Below.refl _ _ | apply Below.drew | refine Below.alloc ?_ (by first | (simp; done) | (simp; omega)) _ | refine Below.setCell ?_ (by first | (simp; done) | (simp; omega)) _)) (by simp [takeS, *]) (by omega)
set_option maxRecDepth 100000 in
set_option maxHeartbeats 1000000 in
theorem take_int (f : Nat) (w : World) (b o : Nat) (q : List Int) (c : Nat) (deep : Nat) (hat : At w b o (nums8 (3 :: q))) (hx : Byt (3 :: q)) (hcap : q.length + 1 ≤ c) (hm : q.length ≤ 1099511627776) (h8 : 8 ≤ q.length) :
    Calls Tryd.prog 42 #[.slice (some ⟨b, o, none⟩) (q.length + 1) c, .int .i64 deep] w (TakePost w b (f + 1) (3 :: q) deep) := by
  obtain ⟨i0, hi, hz0, hsz, hby⟩ := info_parts info5
  have hc2 := cutFrom 24 5 Tryd.underlying24 hi hsz (some ⟨b, o, none⟩) (q.length + 1) c 1 1 rfl (by omega)
  rw [cutA_some, Nat.add_sub_cancel] at hc2
  have hpos : 0 < q.length + 1 := by omega
  have hlt := hat.1
  have hcell : ∀ O1 O2, ((w.alloc O1).alloc O2).cell? ⟨b, o, none⟩ = some (.int .u8 3) := fun O1 O2 => ((hat.alloc O1).alloc O2).2 0 _ rfl
  have HI := Lib.hid (show Tryd.prog.info? 5 = some i0 ∧ i0.size = 1 from ⟨hi, hsz⟩)
  have hq : At w b (cutO o c 1) (nums8 q) := by have := hat.drop c 1 (by simpa [nums8] using hcap); simpa [nums8] using this
  have HQ := Lib.hid hq
  have HX := Lib.hid hx.cons.2
  clear hi hz0 hsz hby hat hq hx
  go_enter Tryd.func42, Tryd.ntmps42
  have hr : At w b (cutO (cutO o c 1) (c - 1) 8) (nums8 (q.drop 8)) := by rw [nums8_drop]; exact HQ.out.drop (c - 1) 8 (by simp; omega)
  have HR := Lib.hid hr
  clear hr
  have hxi : ∀ n : Nat, n < 18446744073709551616 → wrap64 (bits BinOp.xor IntKind.u64 (n : Int) 9223372036854775808) = (n : Int) - (top63 : Nat) := by
    intro n hn
    have := u64_xor_nat n 9223372036854775808 hn (by omega)
    rw [show (9223372036854775808 : Int) = ((9223372036854775808 : Nat) : Int) from rfl, this, xor_top n hn, wrap64]
    unfold top63
    split <;> omega
  have HN := Lib.hid (hxi _ (be8_bound HX.out (k := 8) (by omega)))
  clear hxi
  go_wp2
  go_region
  go_wp2_with fail
  refine (number_long _ _ _ q _ (h3a _ _ _ _) (At.row (by repeat (first | exact HQ.out | apply At.drew | apply At.alloc))) HX.out (by omega) h8).mono ?_
  rintro e w1 ⟨rfl, rfl⟩
  go_wp2
  rw [HN.out, cutA_some]
  go_region
  go_wp2
  refine bodyPost_ret (v := .tuple #[.agg #[.int .i64 3, .bool false, .int .i64 ((be8 (q.take 8) : Int) - top63), .float .f64 0, .complex .f64 0 0, .slice none 0 0, .slice none 0 0], .slice (some ⟨b, cutO (cutO o c 1) (c - 1) 8, none⟩) (q.length - 8) (c - 1 - 8), .int .i64 0]) (by simp [results, Tryd.results42, go_sem]) rfl ?_
  rw [show q.length - 8 = (q.drop 8).length by simp]
  exact TakePost.leaf (s := ⟨3, false, (be8 (q.take 8) : Int) - top63, 0, 0⟩) (by repeat (first | exact Below.refl _ _ | apply Below.drew | refine Below.alloc ?_ (by first | (simp; done) | (simp; omega)) _ | refine Below.setCell ?_ (by first | (simp; done) | (simp; omega)) _)) (by simp [takeS]; omega) (by repeat (first | exact HR.out | apply At.drew | (refine At.setCell ?_ (by simp; omega) _) | apply At.alloc)) (by first | omega | (simp; omega))
end Go.Proofs.YtplfmpcoojkjlaaDoor
