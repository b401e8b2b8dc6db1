/- The program's reading of one value: texts, tuples, what is none. -/
import Derived.Test.YtplfmpcoojkjlaaDoorK4
namespace Go.Proofs.YtplfmpcoojkjlaaDoor
open Go.RowKit Go.Proofs.YtplfmpcoojkjlaaDoorW.PrintWords
theorem pw_own_drew1 {W : World} {base n : Nat} {e : TypeId} {size : Nat} {v : Value} {xs : List Value} (h : W.ownsRow base e size v n xs) : W.drew.ownsRow base e size v n xs := h
theorem takeS_bad (f : Nat) (k : Int) (q : List Int) (deep : Nat) (hk : k < 1 ∨ 7 < k) : takeS (f + 1) (k :: q) deep = .err 40 := by
  unfold takeS
  rw [if_neg (by omega), if_neg (by omega), if_neg (by omega), if_neg (by omega), if_neg (by omega), if_neg (by omega), if_neg (by omega)]
set_option maxRecDepth 100000 in
set_option maxHeartbeats 1000000 in
theorem take_bad (k : Int) (f : Nat) (w : World) (b o : Nat) (q : List Int) (c : Nat) (deep : Nat) (hat : At w b o (nums8 (k :: q))) (hx : Byt (k :: q)) (hcap : q.length + 1 ≤ c) (hm : q.length ≤ 1099511627776) (hk : k < 1 ∨ 7 < k) :
    Calls Tryd.prog 42 #[.slice (some ⟨b, o, none⟩) (q.length + 1) c, .int .i64 deep] w (TakePost w b (f + 1) (k :: q) deep) := by
  obtain ⟨i0, hi, hz0, hsz, hby⟩ := info_parts info5
  have hc2 := cutFrom 24 5 Tryd.underlying24 hi hsz (some ⟨b, o, none⟩) (q.length + 1) c 1 1 rfl (by omega)
  rw [cutA_some, Nat.add_sub_cancel] at hc2
  have hpos : 0 < q.length + 1 := by omega
  have hlt := hat.1
  have hcell : ∀ O1 O2, ((w.alloc O1).alloc O2).cell? ⟨b, o, none⟩ = some (.int .u8 k) := fun O1 O2 => ((hat.alloc O1).alloc O2).2 0 _ rfl
  have HI := Lib.hid (show Tryd.prog.info? 5 = some i0 ∧ i0.size = 1 from ⟨hi, hsz⟩)
  have hq : At w b (cutO o c 1) (nums8 q) := by have := hat.drop c 1 (by simpa [nums8] using hcap); simpa [nums8] using this
  have HQ := Lib.hid hq
  have HX := Lib.hid hx.cons.2
  have hkb := hx.cons.1
  obtain ⟨hkb1, hkb2⟩ := hkb
  clear hi hz0 hsz hby hat hq hx
  go_enter Tryd.func42, Tryd.ntmps42
  have hk1 : (k == 1) = false := by simp; omega
  have hk2 : (k == 2) = false := by simp; omega
  have hk3 : (k == 3) = false := by simp; omega
  have hk4 : (k == 4) = false := by simp; omega
  have hk5 : (k == 5) = false := by simp; omega
  have hk6 : (k == 6) = false := by simp; omega
  have hk7 : (k == 7) = false := by simp; omega
  have HKK := Lib.hid hk
  clear hk
  go_wp2
  go_region
  go_wp2
  refine bodyPost_ret (v := .tuple #[.agg #[.int .i64 0, .bool false, .int .i64 0, .float .f64 0, .complex .f64 0 0, .slice none 0 0, .slice none 0 0], .slice none 0 0, .int .i64 40]) (by simp [results, Tryd.results42, go_sem]) rfl ?_
  exact TakePost.bad (by repeat (first | exact Below.refl _ _ | apply Below.drew | refine Below.alloc ?_ (by first | (simp; done) | (simp; omega)) _ | refine Below.setCell ?_ (by first | (simp; done) | (simp; omega)) _)) (takeS_bad f k q deep HKK.out) (by omega)
theorem TakePost.text {w w' : World} {b f : Nat} {xs : List Int} {deep : Nat} {t rest : List Int} {A : Option Addr} {cap o c : Nat} (hb : Below w.heap.size w w') (hs : takeS f xs deep = .ok (.mk (.of 6) t [], rest)) (hv : w'.ownsRow w.heap.size 5 1 (.slice A t.length cap) t.length (nums8 t)) (hat : At w' b o (nums8 rest)) (hc : rest.length ≤ c) :
    TakePost w b f xs deep (.returned (.tuple #[.agg #[.int .i64 6, .bool false, .int .i64 0, .float .f64 0, .complex .f64 0 0, .slice A t.length cap, .slice none 0 0], .slice (some ⟨b, o, none⟩) rest.length c, .int .i64 0])) w' := by
  refine ⟨hb, .mk (PS.of 6).ans ⟨A, cap⟩ t ⟨none, 0⟩ [], _, _, rfl, ?_⟩
  rw [hs]
  have hid : LT.ids (.mk (PS.of 6).ans ⟨A, cap⟩ t ⟨none, 0⟩ [] : LT VS) = Hdr.ids ⟨A, cap⟩ := by simp [LT.ids, LT.idss, Hdr.ids]
  refine ⟨rfl, rfl, .mk (own_weaken hv (Nat.zero_le _)) ⟨rfl, .inl ⟨rfl, rfl⟩⟩ (fun p hp => by cases hp), ?_, ?_, o, c, rfl, hat, hc⟩
  · rw [hid]; cases A <;> simp [Hdr.ids]
  · rw [hid]; exact fun k hk => (own_ids_lt (h := ⟨A, cap⟩) hv k hk).1
theorem takeS_text (f : Nat) (q : List Int) (deep : Nat) : takeS (f + 1) (6 :: q) deep = match textS q with | none => .err 40 | some (t, r) => .ok (.mk (.of 6) t [], r) := by
  unfold takeS
  rw [if_neg (by omega), if_neg (by omega), if_neg (by omega), if_neg (by omega), if_neg (by omega), if_pos rfl]
  rfl
set_option maxRecDepth 100000 in
set_option maxHeartbeats 1000000 in
theorem take_text_none (f : Nat) (w : World) (b o : Nat) (q : List Int) (c : Nat) (deep : Nat) (hat : At w b o (nums8 (6 :: q))) (hx : Byt (6 :: q)) (hcap : q.length + 1 ≤ c) (hm : q.length ≤ 1099511627776) (ht : textS q = none) :
    Calls Tryd.prog 42 #[.slice (some ⟨b, o, none⟩) (q.length + 1) c, .int .i64 deep] w (TakePost w b (f + 1) (6 :: q) deep) := by
  obtain ⟨i0, hi, hz0, hsz, hby⟩ := info_parts info5
  have hc2 := cutFrom 24 5 Tryd.underlying24 hi hsz (some ⟨b, o, none⟩) (q.length + 1) c 1 1 rfl (by omega)
  rw [cutA_some, Nat.add_sub_cancel] at hc2
  have hpos : 0 < q.length + 1 := by omega
  have hlt := hat.1
  have hcell : ∀ O1 O2, ((w.alloc O1).alloc O2).cell? ⟨b, o, none⟩ = some (.int .u8 6) := fun O1 O2 => ((hat.alloc O1).alloc O2).2 0 _ rfl
  have HI := Lib.hid (show Tryd.prog.info? 5 = some i0 ∧ i0.size = 1 from ⟨hi, hsz⟩)
  have hq : At w b (cutO o c 1) (nums8 q) := by have := hat.drop c 1 (by simpa [nums8] using hcap); simpa [nums8] using this
  have HQ := Lib.hid hq
  have HX := Lib.hid hx.cons.2
  clear hi hz0 hsz hby hat hq hx
  go_enter Tryd.func42, Tryd.ntmps42
  have HT := Lib.hid ht
  clear ht
  go_wp2
  go_region
  go_wp2_with fail
  refine (text_calls _ b (cutO o c 1) q (c - 1) (by repeat (first | exact HQ.out | apply At.drew | apply At.alloc)) HX.out (by omega) (by omega)).mono ?_
  rintro e w2 ⟨hb2, hr2⟩
  have HB2 := Lib.hid hb2
  have eA := (hb2.block w.heap.size (by first | (simp; done) | (simp; omega))).trans (h3a _ _ _ _)
  have eB := (hb2.block (w.heap.size + 1) (by first | (simp; done) | (simp; omega))).trans (h3b _ _ _ _)
  have hcA : w2.cell? ⟨w.heap.size, 0, none⟩ = _ := (blk_cell eA 0).trans rfl
  have hfA := blk_frozen eA 0
  have hcB0 : w2.cell? ⟨w.heap.size + 1, 0, none⟩ = _ := (blk_cell eB 0).trans rfl
  have hcB1 : w2.cell? ⟨w.heap.size + 1, 1, none⟩ = _ := (blk_cell eB 1).trans rfl
  have hcB2 : w2.cell? ⟨w.heap.size + 1, 2, none⟩ = _ := (blk_cell eB 2).trans rfl
  have hcB3 : w2.cell? ⟨w.heap.size + 1, 3, none⟩ = _ := (blk_cell eB 3).trans rfl
  have hcB4 : w2.cell? ⟨w.heap.size + 1, 4, none⟩ = _ := (blk_cell eB 4).trans rfl
  have hcB5 : w2.cell? ⟨w.heap.size + 1, 5, none⟩ = _ := (blk_cell eB 5).trans rfl
  have hcB6 : w2.cell? ⟨w.heap.size + 1, 6, none⟩ = _ := (blk_cell eB 6).trans rfl
  have hfB := fun j => blk_frozen eB j
  have HBW := Lib.hid (show Below w.heap.size w w2 from Below.trans (by repeat (first | exact Below.refl _ _ | apply Below.drew | refine Below.alloc ?_ (by first | (simp; done) | (simp; omega)) _ | refine Below.setCell ?_ (by first | (simp; done) | (simp; omega)) _)) (HB2.out.mono (by simp; omega)))
  have hsz2 : w.heap.size + 3 ≤ w2.heap.size := by have := hb2.size; simp at this; omega
  have EA := Lib.hid eA
  have EB := Lib.hid eB
  clear hb2 eA eB
  rw [HT.out] at hr2
  obtain rfl := hr2
  go_wp2
  refine bodyPost_ret (v := .tuple #[.agg #[.int .i64 0, .bool false, .int .i64 0, .float .f64 0, .complex .f64 0 0, .slice none 0 0, .slice none 0 0], .slice none 0 0, .int .i64 40]) (by simp [results, Tryd.results42, go_sem, hcB0, hcB1, hcB2, hcB3, hcB4, hcB5, hcB6]) rfl ?_
  exact TakePost.bad (by repeat (first | with_reducible exact HBW.out | with_reducible apply Below.drew | ((with_reducible refine Below.setCell ?_ ?hp _); (case hp => first | (simp; done) | (simp; omega))))) (by rw [takeS_text, HT.out]) (by omega)
set_option maxRecDepth 100000 in
set_option maxHeartbeats 1000000 in
theorem take_text (f : Nat) (w : World) (b o : Nat) (q : List Int) (c : Nat) (deep : Nat) (hat : At w b o (nums8 (6 :: q))) (hx : Byt (6 :: q)) (hcap : q.length + 1 ≤ c) (hm : q.length ≤ 1099511627776) (t r : List Int) (ht : textS q = some (t, r)) :
    Calls Tryd.prog 42 #[.slice (some ⟨b, o, none⟩) (q.length + 1) c, .int .i64 deep] w (TakePost w b (f + 1) (6 :: q) deep) := by
  obtain ⟨i0, hi, hz0, hsz, hby⟩ := info_parts info5
  have hc2 := cutFrom 24 5 Tryd.underlying24 hi hsz (some ⟨b, o, none⟩) (q.length + 1) c 1 1 rfl (by omega)
  rw [cutA_some, Nat.add_sub_cancel] at hc2
  have hpos : 0 < q.length + 1 := by omega
  have hlt := hat.1
  have hcell : ∀ O1 O2, ((w.alloc O1).alloc O2).cell? ⟨b, o, none⟩ = some (.int .u8 6) := fun O1 O2 => ((hat.alloc O1).alloc O2).2 0 _ rfl
  have HI := Lib.hid (show Tryd.prog.info? 5 = some i0 ∧ i0.size = 1 from ⟨hi, hsz⟩)
  have hq : At w b (cutO o c 1) (nums8 q) := by have := hat.drop c 1 (by simpa [nums8] using hcap); simpa [nums8] using this
  have HQ := Lib.hid hq
  have HX := Lib.hid hx.cons.2
  clear hi hz0 hsz hby hat hq hx
  go_enter Tryd.func42, Tryd.ntmps42
  have HT := Lib.hid ht
  clear ht
  go_wp2
  go_region
  go_wp2_with fail
  refine (text_calls _ b (cutO o c 1) q (c - 1) (by repeat (first | exact HQ.out | apply At.drew | apply At.alloc)) HX.out (by omega) (by omega)).mono ?_
  rintro e w2 ⟨hb2, hr2⟩
  have HB2 := Lib.hid hb2
  have eA := (hb2.block w.heap.size (by first | (simp; done) | (simp; omega))).trans (h3a _ _ _ _)
  have eB := (hb2.block (w.heap.size + 1) (by first | (simp; done) | (simp; omega))).trans (h3b _ _ _ _)
  have hcA : w2.cell? ⟨w.heap.size, 0, none⟩ = _ := (blk_cell eA 0).trans rfl
  have hfA := blk_frozen eA 0
  have hcB0 : w2.cell? ⟨w.heap.size + 1, 0, none⟩ = _ := (blk_cell eB 0).trans rfl
  have hcB1 : w2.cell? ⟨w.heap.size + 1, 1, none⟩ = _ := (blk_cell eB 1).trans rfl
  have hcB2 : w2.cell? ⟨w.heap.size + 1, 2, none⟩ = _ := (blk_cell eB 2).trans rfl
  have hcB3 : w2.cell? ⟨w.heap.size + 1, 3, none⟩ = _ := (blk_cell eB 3).trans rfl
  have hcB4 : w2.cell? ⟨w.heap.size + 1, 4, none⟩ = _ := (blk_cell eB 4).trans rfl
  have hcB5 : w2.cell? ⟨w.heap.size + 1, 5, none⟩ = _ := (blk_cell eB 5).trans rfl
  have hcB6 : w2.cell? ⟨w.heap.size + 1, 6, none⟩ = _ := (blk_cell eB 6).trans rfl
  have hfB := fun j => blk_frozen eB j
  have HBW := Lib.hid (show Below w.heap.size w w2 from Below.trans (by repeat (first | exact Below.refl _ _ | apply Below.drew | refine Below.alloc ?_ (by first | (simp; done) | (simp; omega)) _ | refine Below.setCell ?_ (by first | (simp; done) | (simp; omega)) _)) (HB2.out.mono (by simp; omega)))
  have hsz2 : w.heap.size + 3 ≤ w2.heap.size := by have := hb2.size; simp at this; omega
  have EA := Lib.hid eA
  have EB := Lib.hid eB
  clear hb2 eA eB
  rw [HT.out] at hr2
  obtain ⟨v, o3, c3, rfl, how, hat3, hc3⟩ := hr2
  obtain ⟨A, cap, rfl⟩ := own_slice how
  have HOW := Lib.hid (own_weaken (base' := w.heap.size + 3) how (by simp))
  clear how
  go_wp2
  go_region
  go_wp2
  refine bodyPost_ret (v := .tuple #[.agg #[.int .i64 6, .bool false, .int .i64 0, .float .f64 0, .complex .f64 0 0, .slice A t.length cap, .slice none 0 0], .slice (some ⟨b, o3, none⟩) r.length c3, .int .i64 0]) (by simp [results, Tryd.results42, go_sem, hcB0, hcB1, hcB2, hcB3, hcB4, hcB5, hcB6]) rfl ?_
  exact TakePost.text (by repeat (first | with_reducible exact HBW.out | with_reducible apply Below.drew | ((with_reducible refine Below.setCell ?_ ?hp _); (case hp => first | (simp; done) | (simp; omega))))) (by rw [takeS_text, HT.out]) (own_weaken (base := w.heap.size + 3) (by repeat (first | with_reducible exact HOW.out | with_reducible apply pw_own_drew1 | ((with_reducible refine ownsRow_setCell_below ?_ ?hp _); (case hp => first | (simp; done) | (simp; omega))))) (by omega)) (by repeat (first | with_reducible exact hat3 | with_reducible apply At.drew | ((with_reducible refine At.setCell ?_ ?hp _); (case hp => first | (simp; done) | (simp; omega))))) hc3
def TupPost (w : World) (b f : Nat) (xs : List Int) (deep : Nat) (e : Ending) (w' : World) : Prop :=
  Below w.heap.size w w' ∧ match tupS f xs deep with
    | .err er => er ≠ 0 ∧ e = .returned (.tuple #[.slice none 0 0, .slice none 0 0, .int .i64 er])
    | .ok (ps, rest) => ∃ (h : Hdr) (ls : List (LT VS)) (o c : Nat), e = .returned (.tuple #[.slice h.A ls.length h.cap, .slice (some ⟨b, o, none⟩) rest.length c, .int .i64 0]) ∧ LT.pures ls = TT.maps PS.ans ps ∧ OwnL VS.enc 5 46 w' h ls ∧ (h.ids ++ LT.idss ls).Nodup ∧ (∀ k ∈ h.ids ++ LT.idss ls, w.heap.size ≤ k) ∧ At w' b o (nums8 rest) ∧ rest.length ≤ c
def TupAt (f : Nat) : Prop := ∀ (w : World) (b o : Nat) (xs : List Int) (c : Nat) (deep : Nat), At w b o (nums8 xs) → Byt xs → xs.length ≤ c → xs.length ≤ 1099511627776 → 2 * xs.length + 1 ≤ f → 1 ≤ deep → deep ≤ 16 → Calls Tryd.prog 55 #[.slice (some ⟨b, o, none⟩) xs.length c, .int .i64 (deep : Int)] w (TupPost w b f xs deep)
theorem takeS_tuple (f : Nat) (q : List Int) (deep : Nat) : takeS (f + 1) (7 :: q) deep = if deep = 16 then .err 41 else match tupS f q (deep + 1) with | .err e => .err e | .ok (ps, r) => .ok (.mk (.of 7) [] ps, r) := by
  unfold takeS
  rw [if_neg (by omega), if_neg (by omega), if_neg (by omega), if_neg (by omega), if_neg (by omega), if_neg (by omega), if_pos rfl]
  rfl
theorem TakePost.parts {w w' : World} {b f : Nat} {xs : List Int} {deep : Nat} {ps : List P} {rest : List Int} {h : Hdr} {ls : List (LT VS)} {o c : Nat} (hb : Below w.heap.size w w') (hs : takeS f xs deep = .ok (.mk (.of 7) [] ps, rest)) (hp : LT.pures ls = TT.maps PS.ans ps) (hv : OwnL VS.enc 5 46 w' h ls) (hn : (h.ids ++ LT.idss ls).Nodup) (hw : ∀ k ∈ h.ids ++ LT.idss ls, w.heap.size ≤ k) (hat : At w' b o (nums8 rest)) (hc : rest.length ≤ c) :
    TakePost w b f xs deep (.returned (.tuple #[.agg #[.int .i64 7, .bool false, .int .i64 0, .float .f64 0, .complex .f64 0 0, .slice none 0 0, .slice h.A ls.length h.cap], .slice (some ⟨b, o, none⟩) rest.length c, .int .i64 0])) w' := by
  refine ⟨hb, .mk (PS.of 7).ans ⟨none, 0⟩ [] h ls, _, _, rfl, ?_⟩
  rw [hs]
  have hid : LT.ids (.mk (PS.of 7).ans ⟨none, 0⟩ [] h ls : LT VS) = h.ids ++ LT.idss ls := by simp [LT.ids, Hdr.ids]
  refine ⟨rfl, by simp [LT.pure, TT.map, hp], .mk ⟨rfl, .inl ⟨rfl, rfl⟩⟩ hv.row hv.all, ?_, ?_, o, c, rfl, hat, hc⟩
  · rw [hid]; exact hn
  · rw [hid]; exact hw
theorem TakePost.bad7 {w w' : World} {b f : Nat} {xs : List Int} {deep : Nat} {er : Int} (hb : Below w.heap.size w w') (hs : takeS f xs deep = .err er) (h0 : er ≠ 0) :
    TakePost w b f xs deep (.returned (.tuple #[.agg #[.int .i64 7, .bool false, .int .i64 0, .float .f64 0, .complex .f64 0 0, .slice none 0 0, .slice none 0 0], .slice none 0 0, .int .i64 er])) w' := by
  refine ⟨hb, Go.Proofs.YtplfmpcoojkjlaaDoor.leaf ⟨7, false, 0, 0, 0, 0⟩, _, _, rfl, ?_⟩
  rw [hs]
  exact ⟨rfl, h0⟩
theorem OwnL.drew {enc : VS → List Value} {t8 tn : TypeId} {w : World} {h : Hdr} {ls : List (LT VS)} (k : OwnL enc t8 tn w h ls) : OwnL enc t8 tn w.drew h ls := k.move fun _ _ => rfl
theorem OwnL.setCell {enc : VS → List Value} {t8 tn : TypeId} {w : World} {h : Hdr} {ls : List (LT VS)} {B : Nat} (k : OwnL enc t8 tn w h ls) (hB : ∀ i ∈ h.ids ++ LT.idss ls, B ≤ i) {p : Addr} (hp : p.block < B) (u : Value) : OwnL enc t8 tn (w.setCell p u) h ls :=
  k.move fun i hi => Below.heap_setCell w p u i (by have := hB i (List.mem_append.2 hi); omega)
set_option maxRecDepth 100000 in
set_option maxHeartbeats 1000000 in
theorem take_deep (f : Nat) (w : World) (b o : Nat) (q : List Int) (c : Nat) (deep : Nat) (h16 : deep = 16) (hat : At w b o (nums8 (7 :: q))) (hx : Byt (7 :: q)) (hcap : q.length + 1 ≤ c) (hm : q.length ≤ 1099511627776) :
    Calls Tryd.prog 42 #[.slice (some ⟨b, o, none⟩) (q.length + 1) c, .int .i64 deep] w (TakePost w b (f + 1) (7 :: q) deep) := by
  obtain ⟨i0, hi, hz0, hsz, hby⟩ := info_parts info5
  have hc2 := cutFrom 24 5 Tryd.underlying24 hi hsz (some ⟨b, o, none⟩) (q.length + 1) c 1 1 rfl (by omega)
  rw [cutA_some, Nat.add_sub_cancel] at hc2
  have hpos : 0 < q.length + 1 := by omega
  have hlt := hat.1
  have hcell : ∀ O1 O2, ((w.alloc O1).alloc O2).cell? ⟨b, o, none⟩ = some (.int .u8 7) := fun O1 O2 => ((hat.alloc O1).alloc O2).2 0 _ rfl
  have HI := Lib.hid (show Tryd.prog.info? 5 = some i0 ∧ i0.size = 1 from ⟨hi, hsz⟩)
  have hq : At w b (cutO o c 1) (nums8 q) := by have := hat.drop c 1 (by simpa [nums8] using hcap); simpa [nums8] using this
  have HQ := Lib.hid hq
  have HX := Lib.hid hx.cons.2
  clear hi hz0 hsz hby hat hq hx
  go_enter Tryd.func42, Tryd.ntmps42
  have hdp : ((deep : Int) == 16) = true := by subst h16; rfl
  have HD := Lib.hid h16
  clear h16
  go_wp2
  go_region
  go_wp2
  refine bodyPost_ret (v := .tuple #[.agg #[.int .i64 0, .bool false, .int .i64 0, .float .f64 0, .complex .f64 0 0, .slice none 0 0, .slice none 0 0], .slice none 0 0, .int .i64 41]) (by simp [results, Tryd.results42, go_sem]) rfl ?_
  exact TakePost.bad (by repeat (first | exact Below.refl _ _ | apply Below.drew | refine Below.alloc ?_ (by first | (simp; done) | (simp; omega)) _ | refine Below.setCell ?_ (by first | (simp; done) | (simp; omega)) _)) (by rw [takeS_tuple, if_pos HD.out]) (by omega)
set_option maxRecDepth 100000 in
set_option maxHeartbeats 1000000 in
theorem take_tuple_err (f : Nat) (w : World) (b o : Nat) (q : List Int) (c : Nat) (deep : Nat) (hat : At w b o (nums8 (7 :: q))) (hx : Byt (7 :: q)) (hcap : q.length + 1 ≤ c) (hm : q.length ≤ 1099511627776) (h16 : deep < 16) (hf : 2 * (q.length + 1) ≤ f + 1) (HTup : TupAt f) (er : Int) (hs : tupS f q (deep + 1) = .err er) :
    Calls Tryd.prog 42 #[.slice (some ⟨b, o, none⟩) (q.length + 1) c, .int .i64 deep] w (TakePost w b (f + 1) (7 :: q) deep) := by
  obtain ⟨i0, hi, hz0, hsz, hby⟩ := info_parts info5
  have hc2 := cutFrom 24 5 Tryd.underlying24 hi hsz (some ⟨b, o, none⟩) (q.length + 1) c 1 1 rfl (by omega)
  rw [cutA_some, Nat.add_sub_cancel] at hc2
  have hpos : 0 < q.length + 1 := by omega
  have hlt := hat.1
  have hcell : ∀ O1 O2, ((w.alloc O1).alloc O2).cell? ⟨b, o, none⟩ = some (.int .u8 7) := fun O1 O2 => ((hat.alloc O1).alloc O2).2 0 _ rfl
  have HI := Lib.hid (show Tryd.prog.info? 5 = some i0 ∧ i0.size = 1 from ⟨hi, hsz⟩)
  have hq : At w b (cutO o c 1) (nums8 q) := by have := hat.drop c 1 (by simpa [nums8] using hcap); simpa [nums8] using this
  have HQ := Lib.hid hq
  have HX := Lib.hid hx.cons.2
  clear hi hz0 hsz hby hat hq hx
  go_enter Tryd.func42, Tryd.ntmps42
  have hdp : ((deep : Int) == 16) = false := by simp; omega
  have HT := Lib.hid HTup
  clear HTup
  have HS := Lib.hid hs
  clear hs
  go_wp2
  go_region
  go_wp2_with fail
  rw [show (deep : Int) + 1 = ((deep + 1 : Nat) : Int) from rfl]
  refine (HT.out _ b (cutO o c 1) q (c - 1) (deep + 1) (by repeat (first | exact HQ.out | apply At.drew | apply At.alloc)) HX.out (by omega) (by omega) (by omega) (by omega) (by omega)).mono ?_
  rintro e w2 ⟨hb2, hr2⟩
  have HB2 := Lib.hid hb2
  have eA := (hb2.block w.heap.size (by first | (simp; done) | (simp; omega))).trans (h3a _ _ _ _)
  have eB := (hb2.block (w.heap.size + 1) (by first | (simp; done) | (simp; omega))).trans (h3b _ _ _ _)
  have hcA : w2.cell? ⟨w.heap.size, 0, none⟩ = _ := (blk_cell eA 0).trans rfl
  have hfA := blk_frozen eA 0
  have hcB0 : w2.cell? ⟨w.heap.size + 1, 0, none⟩ = _ := (blk_cell eB 0).trans rfl
  have hcB1 : w2.cell? ⟨w.heap.size + 1, 1, none⟩ = _ := (blk_cell eB 1).trans rfl
  have hcB2 : w2.cell? ⟨w.heap.size + 1, 2, none⟩ = _ := (blk_cell eB 2).trans rfl
  have hcB3 : w2.cell? ⟨w.heap.size + 1, 3, none⟩ = _ := (blk_cell eB 3).trans rfl
  have hcB4 : w2.cell? ⟨w.heap.size + 1, 4, none⟩ = _ := (blk_cell eB 4).trans rfl
  have hcB5 : w2.cell? ⟨w.heap.size + 1, 5, none⟩ = _ := (blk_cell eB 5).trans rfl
  have hcB6 : w2.cell? ⟨w.heap.size + 1, 6, none⟩ = _ := (blk_cell eB 6).trans rfl
  have hfB := fun j => blk_frozen eB j
  have HBW := Lib.hid (show Below w.heap.size w w2 from Below.trans (by repeat (first | exact Below.refl _ _ | apply Below.drew | refine Below.alloc ?_ (by first | (simp; done) | (simp; omega)) _ | refine Below.setCell ?_ (by first | (simp; done) | (simp; omega)) _)) (HB2.out.mono (by simp; omega)))
  have hsz2 : w.heap.size + 3 ≤ w2.heap.size := by have := hb2.size; simp at this; omega
  have EA := Lib.hid eA
  have EB := Lib.hid eB
  clear hb2 eA eB
  rw [HS.out] at hr2
  obtain ⟨her, rfl⟩ := hr2
  go_wp2
  go_region
  go_wp2
  refine bodyPost_ret (v := .tuple #[.agg #[.int .i64 7, .bool false, .int .i64 0, .float .f64 0, .complex .f64 0 0, .slice none 0 0, .slice none 0 0], .slice none 0 0, .int .i64 er]) (by simp [results, Tryd.results42, go_sem, hcB0, hcB1, hcB2, hcB3, hcB4, hcB5, hcB6]) rfl ?_
  exact TakePost.bad7 (by repeat (first | with_reducible exact HBW.out | with_reducible apply Below.drew | ((with_reducible refine Below.setCell ?_ ?hp _); (case hp => first | (simp; done) | (simp; omega))))) (by rw [takeS_tuple, if_neg (by omega), HS.out]) her
set_option maxRecDepth 100000 in
set_option maxHeartbeats 1000000 in
theorem take_tuple (f : Nat) (w : World) (b o : Nat) (q : List Int) (c : Nat) (deep : Nat) (hat : At w b o (nums8 (7 :: q))) (hx : Byt (7 :: q)) (hcap : q.length + 1 ≤ c) (hm : q.length ≤ 1099511627776) (h16 : deep < 16) (hf : 2 * (q.length + 1) ≤ f + 1) (HTup : TupAt f) (ps : List P) (r : List Int) (hs : tupS f q (deep + 1) = .ok (ps, r)) :
    Calls Tryd.prog 42 #[.slice (some ⟨b, o, none⟩) (q.length + 1) c, .int .i64 deep] w (TakePost w b (f + 1) (7 :: q) deep) := by
  obtain ⟨i0, hi, hz0, hsz, hby⟩ := info_parts info5
  have hc2 := cutFrom 24 5 Tryd.underlying24 hi hsz (some ⟨b, o, none⟩) (q.length + 1) c 1 1 rfl (by omega)
  rw [cutA_some, Nat.add_sub_cancel] at hc2
  have hpos : 0 < q.length + 1 := by omega
  have hlt := hat.1
  have hcell : ∀ O1 O2, ((w.alloc O1).alloc O2).cell? ⟨b, o, none⟩ = some (.int .u8 7) := fun O1 O2 => ((hat.alloc O1).alloc O2).2 0 _ rfl
  have HI := Lib.hid (show Tryd.prog.info? 5 = some i0 ∧ i0.size = 1 from ⟨hi, hsz⟩)
  have hq : At w b (cutO o c 1) (nums8 q) := by have := hat.drop c 1 (by simpa [nums8] using hcap); simpa [nums8] using this
  have HQ := Lib.hid hq
  have HX := Lib.hid hx.cons.2
  clear hi hz0 hsz hby hat hq hx
  go_enter Tryd.func42, Tryd.ntmps42
  have hdp : ((deep : Int) == 16) = false := by simp; omega
  have HT := Lib.hid HTup
  clear HTup
  have HS := Lib.hid hs
  clear hs
  go_wp2
  go_region
  go_wp2_with fail
  rw [show (deep : Int) + 1 = ((deep + 1 : Nat) : Int) from rfl]
  refine (HT.out _ b (cutO o c 1) q (c - 1) (deep + 1) (by repeat (first | exact HQ.out | apply At.drew | apply At.alloc)) HX.out (by omega) (by omega) (by omega) (by omega) (by omega)).mono ?_
  rintro e w2 ⟨hb2, hr2⟩
  have HB2 := Lib.hid hb2
  have eA := (hb2.block w.heap.size (by first | (simp; done) | (simp; omega))).trans (h3a _ _ _ _)
  have eB := (hb2.block (w.heap.size + 1) (by first | (simp; done) | (simp; omega))).trans (h3b _ _ _ _)
  have hcA : w2.cell? ⟨w.heap.size, 0, none⟩ = _ := (blk_cell eA 0).trans rfl
  have hfA := blk_frozen eA 0
  have hcB0 : w2.cell? ⟨w.heap.size + 1, 0, none⟩ = _ := (blk_cell eB 0).trans rfl
  have hcB1 : w2.cell? ⟨w.heap.size + 1, 1, none⟩ = _ := (blk_cell eB 1).trans rfl
  have hcB2 : w2.cell? ⟨w.heap.size + 1, 2, none⟩ = _ := (blk_cell eB 2).trans rfl
  have hcB3 : w2.cell? ⟨w.heap.size + 1, 3, none⟩ = _ := (blk_cell eB 3).trans rfl
  have hcB4 : w2.cell? ⟨w.heap.size + 1, 4, none⟩ = _ := (blk_cell eB 4).trans rfl
  have hcB5 : w2.cell? ⟨w.heap.size + 1, 5, none⟩ = _ := (blk_cell eB 5).trans rfl
  have hcB6 : w2.cell? ⟨w.heap.size + 1, 6, none⟩ = _ := (blk_cell eB 6).trans rfl
  have hfB := fun j => blk_frozen eB j
  have HBW := Lib.hid (show Below w.heap.size w w2 from Below.trans (by repeat (first | exact Below.refl _ _ | apply Below.drew | refine Below.alloc ?_ (by first | (simp; done) | (simp; omega)) _ | refine Below.setCell ?_ (by first | (simp; done) | (simp; omega)) _)) (HB2.out.mono (by simp; omega)))
  have hsz2 : w.heap.size + 3 ≤ w2.heap.size := by have := hb2.size; simp at this; omega
  have EA := Lib.hid eA
  have EB := Lib.hid eB
  clear hb2 eA eB
  rw [HS.out] at hr2
  obtain ⟨h, ls, o3, c3, rfl, hpu, how, hnd, hge, hat3, hc3⟩ := hr2
  have hge' : ∀ k ∈ h.ids ++ LT.idss ls, w.heap.size + 3 ≤ k := fun k hk => by have := hge k hk; simp at this; omega
  have HOW := Lib.hid how
  have HW := Lib.hid hge'
  have HP := Lib.hid hpu
  have HND := Lib.hid hnd
  clear how hge hge' hpu hnd
  go_wp2
  go_region
  go_wp2
  refine bodyPost_ret (v := .tuple #[.agg #[.int .i64 7, .bool false, .int .i64 0, .float .f64 0, .complex .f64 0 0, .slice none 0 0, .slice h.A ls.length h.cap], .slice (some ⟨b, o3, none⟩) r.length c3, .int .i64 0]) (by simp [results, Tryd.results42, go_sem, hcB0, hcB1, hcB2, hcB3, hcB4, hcB5, hcB6]) rfl ?_
  exact TakePost.parts (by repeat (first | with_reducible exact HBW.out | with_reducible apply Below.drew | ((with_reducible refine Below.setCell ?_ ?hp _); (case hp => first | (simp; done) | (simp; omega))))) (by rw [takeS_tuple, if_neg (by omega), HS.out]) HP.out (by repeat (first | with_reducible exact HOW.out | with_reducible apply OwnL.drew | ((with_reducible refine OwnL.setCell ?_ HW.out ?hp _); (case hp => first | (simp; done) | (simp; omega))))) HND.out (fun k hk => by have := HW.out k hk; omega) (by repeat (first | with_reducible exact hat3 | with_reducible apply At.drew | ((with_reducible refine At.setCell ?_ ?hp _); (case hp => first | (simp; done) | (simp; omega))))) hc3
end Go.Proofs.YtplfmpcoojkjlaaDoor
