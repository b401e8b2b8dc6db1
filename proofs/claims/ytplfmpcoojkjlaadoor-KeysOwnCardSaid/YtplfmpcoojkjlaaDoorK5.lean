/- The program's reading of one value: real numbers, points. -/
import Derived.Test.YtplfmpcoojkjlaaDoorK4
namespace Go.Proofs.YtplfmpcoojkjlaaDoor
open Go.RowKit Go.Proofs.YtplfmpcoojkjlaaDoorW.PrintWords
set_option maxRecDepth 100000 in
set_option maxHeartbeats 1000000 in
theorem take_real_short (f : Nat) (w : World) (b o : Nat) (q : List Int) (c : Nat) (deep : Nat) (hat : At w b o (nums8 (4 :: q))) (hx : Byt (4 :: q)) (hcap : q.length + 1 ≤ c) (hm : q.length ≤ 1099511627776) (h8 : q.length < 8) :
    Calls Tryd.prog 42 #[.slice (some ⟨b, o, none⟩) (q.length + 1) c, .int .i64 deep] w (TakePost w b (f + 1) (4 :: q) deep) := by
  obtain ⟨i0, hi, hz0, hsz, hby⟩ := info_parts info5
  have hc2 := cutFrom 24 5 Tryd.underlying24 hi hsz (some ⟨b, o, none⟩) (q.length + 1) c 1 1 rfl (by omega)
  rw [cutA_some, Nat.add_sub_cancel] at hc2
  have hpos : 0 < q.length + 1 := by omega
  have hlt := hat.1
  have hcell : ∀ O1 O2, ((w.alloc O1).alloc O2).cell? ⟨b, o, none⟩ = some (.int .u8 4) := fun O1 O2 => ((hat.alloc O1).alloc O2).2 0 _ rfl
  have HI := Lib.hid (show Tryd.prog.info? 5 = some i0 ∧ i0.size = 1 from ⟨hi, hsz⟩)
  have hq : At w b (cutO o c 1) (nums8 q) := by have := hat.drop c 1 (by simpa [nums8] using hcap); simpa [nums8] using this
  have HQ := Lib.hid hq
  have HX := Lib.hid hx.cons.2
  clear hi hz0 hsz hby hat hq hx
  go_enter Tryd.func42, Tryd.ntmps42
  go_wp2
  go_region
  go_wp2_with fail
  refine (float_short _ _ _ _ _ _ (h3c _ _ _ _) (h3a _ _ _ _) h8).mono ?_
  rintro e w1 ⟨rfl, rfl⟩
  go_wp2
  refine bodyPost_ret (v := .tuple #[.agg #[.int .i64 0, .bool false, .int .i64 0, .float .f64 0, .complex .f64 0 0, .slice none 0 0, .slice none 0 0], .slice none 0 0, .int .i64 40]) (by simp [results, Tryd.results42, go_sem]) rfl ?_
  exact TakePost.bad (by repeat (first | exact Below.refl _ _ | apply Below.drew | refine Below.alloc ?_ (by first | (simp; done) | (simp; omega)) _ | refine Below.setCell ?_ (by first | (simp; done) | (simp; omega)) _)) (by simp [takeS, *]) (by omega)
set_option maxRecDepth 100000 in
set_option maxHeartbeats 1000000 in
theorem take_real_bad (f : Nat) (w : World) (b o : Nat) (q : List Int) (c : Nat) (deep : Nat) (hat : At w b o (nums8 (4 :: q))) (hx : Byt (4 :: q)) (hcap : q.length + 1 ≤ c) (hm : q.length ≤ 1099511627776) (h8 : 8 ≤ q.length) (hn : ¬ cleanB (unrankB (be8 (q.take 8))) = unrankB (be8 (q.take 8))) :
    Calls Tryd.prog 42 #[.slice (some ⟨b, o, none⟩) (q.length + 1) c, .int .i64 deep] w (TakePost w b (f + 1) (4 :: q) deep) := by
  obtain ⟨i0, hi, hz0, hsz, hby⟩ := info_parts info5
  have hc2 := cutFrom 24 5 Tryd.underlying24 hi hsz (some ⟨b, o, none⟩) (q.length + 1) c 1 1 rfl (by omega)
  rw [cutA_some, Nat.add_sub_cancel] at hc2
  have hpos : 0 < q.length + 1 := by omega
  have hlt := hat.1
  have hcell : ∀ O1 O2, ((w.alloc O1).alloc O2).cell? ⟨b, o, none⟩ = some (.int .u8 4) := fun O1 O2 => ((hat.alloc O1).alloc O2).2 0 _ rfl
  have HI := Lib.hid (show Tryd.prog.info? 5 = some i0 ∧ i0.size = 1 from ⟨hi, hsz⟩)
  have hq : At w b (cutO o c 1) (nums8 q) := by have := hat.drop c 1 (by simpa [nums8] using hcap); simpa [nums8] using this
  have HQ := Lib.hid hq
  have HX := Lib.hid hx.cons.2
  clear hi hz0 hsz hby hat hq hx
  go_enter Tryd.func42, Tryd.ntmps42
  have hd : decide (cleanB (unrankB (be8 (q.take 8))) = unrankB (be8 (q.take 8))) = false := decide_eq_false hn
  have HN := Lib.hid hn
  clear hn
  go_wp2
  go_region
  go_wp2_with fail
  refine (float_long _ _ _ _ q _ (h3c _ _ _ _) (h3a _ _ _ _) (At.row (by repeat (first | exact HQ.out | apply At.drew | apply At.alloc))) HX.out (by omega) h8).mono ?_
  rintro e w1 ⟨rfl, rfl⟩
  go_wp2
  refine bodyPost_ret (v := .tuple #[.agg #[.int .i64 0, .bool false, .int .i64 0, .float .f64 0, .complex .f64 0 0, .slice none 0 0, .slice none 0 0], .slice none 0 0, .int .i64 40]) (by simp [results, Tryd.results42, go_sem]) rfl ?_
  exact TakePost.bad (by repeat (first | exact Below.refl _ _ | apply Below.drew | refine Below.alloc ?_ (by first | (simp; done) | (simp; omega)) _ | refine Below.setCell ?_ (by first | (simp; done) | (simp; omega)) _)) (by have := HN.out; simp [takeS, this]) (by omega)
set_option maxRecDepth 100000 in
set_option maxHeartbeats 1000000 in
theorem take_real (f : Nat) (w : World) (b o : Nat) (q : List Int) (c : Nat) (deep : Nat) (hat : At w b o (nums8 (4 :: q))) (hx : Byt (4 :: q)) (hcap : q.length + 1 ≤ c) (hm : q.length ≤ 1099511627776) (h8 : 8 ≤ q.length) (hn : cleanB (unrankB (be8 (q.take 8))) = unrankB (be8 (q.take 8))) :
    Calls Tryd.prog 42 #[.slice (some ⟨b, o, none⟩) (q.length + 1) c, .int .i64 deep] w (TakePost w b (f + 1) (4 :: q) deep) := by
  obtain ⟨i0, hi, hz0, hsz, hby⟩ := info_parts info5
  have hc2 := cutFrom 24 5 Tryd.underlying24 hi hsz (some ⟨b, o, none⟩) (q.length + 1) c 1 1 rfl (by omega)
  rw [cutA_some, Nat.add_sub_cancel] at hc2
  have hpos : 0 < q.length + 1 := by omega
  have hlt := hat.1
  have hcell : ∀ O1 O2, ((w.alloc O1).alloc O2).cell? ⟨b, o, none⟩ = some (.int .u8 4) := fun O1 O2 => ((hat.alloc O1).alloc O2).2 0 _ rfl
  have HI := Lib.hid (show Tryd.prog.info? 5 = some i0 ∧ i0.size = 1 from ⟨hi, hsz⟩)
  have hq : At w b (cutO o c 1) (nums8 q) := by have := hat.drop c 1 (by simpa [nums8] using hcap); simpa [nums8] using this
  have HQ := Lib.hid hq
  have HX := Lib.hid hx.cons.2
  clear hi hz0 hsz hby hat hq hx
  go_enter Tryd.func42, Tryd.ntmps42
  have hr : At w b (cutO (cutO o c 1) (c - 1) 8) (nums8 (q.drop 8)) := by rw [nums8_drop]; exact HQ.out.drop (c - 1) 8 (by simp; omega)
  have HR := Lib.hid hr
  clear hr
  have hd : decide (cleanB (unrankB (be8 (q.take 8))) = unrankB (be8 (q.take 8))) = true := decide_eq_true hn
  have HN := Lib.hid hn
  clear hn
  go_wp2
  go_region
  go_wp2_with fail
  refine (float_long _ _ _ _ q _ (h3c _ _ _ _) (h3a _ _ _ _) (At.row (by repeat (first | exact HQ.out | apply At.drew | apply At.alloc))) HX.out (by omega) h8).mono ?_
  rintro e w1 ⟨rfl, rfl⟩
  go_wp2
  rw [cutA_some]
  go_region
  go_wp2
  refine bodyPost_ret (v := .tuple #[.agg #[.int .i64 4, .bool false, .int .i64 0, .float .f64 (unrankB (be8 (q.take 8))), .complex .f64 0 0, .slice none 0 0, .slice none 0 0], .slice (some ⟨b, cutO (cutO o c 1) (c - 1) 8, none⟩) (q.length - 8) (c - 1 - 8), .int .i64 0]) (by simp [results, Tryd.results42, go_sem]) rfl ?_
  rw [show q.length - 8 = (q.drop 8).length by simp]
  exact TakePost.leaf (s := ⟨4, false, 0, unrankB (be8 (q.take 8)), 0⟩) (by repeat (first | exact Below.refl _ _ | apply Below.drew | refine Below.alloc ?_ (by first | (simp; done) | (simp; omega)) _ | refine Below.setCell ?_ (by first | (simp; done) | (simp; omega)) _)) (by have := HN.out; simp [takeS, this]; omega) (by repeat (first | exact HR.out | apply At.drew | (refine At.setCell ?_ (by simp; omega) _) | apply At.alloc)) (by first | omega | (simp; omega))
set_option maxRecDepth 100000 in
set_option maxHeartbeats 1000000 in
theorem take_point_short (f : Nat) (w : World) (b o : Nat) (q : List Int) (c : Nat) (deep : Nat) (hat : At w b o (nums8 (5 :: q))) (hx : Byt (5 :: q)) (hcap : q.length + 1 ≤ c) (hm : q.length ≤ 1099511627776) (h8 : q.length < 8) :
    Calls Tryd.prog 42 #[.slice (some ⟨b, o, none⟩) (q.length + 1) c, .int .i64 deep] w (TakePost w b (f + 1) (5 :: q) deep) := by
  obtain ⟨i0, hi, hz0, hsz, hby⟩ := info_parts info5
  have hc2 := cutFrom 24 5 Tryd.underlying24 hi hsz (some ⟨b, o, none⟩) (q.length + 1) c 1 1 rfl (by omega)
  rw [cutA_some, Nat.add_sub_cancel] at hc2
  have hpos : 0 < q.length + 1 := by omega
  have hlt := hat.1
  have hcell : ∀ O1 O2, ((w.alloc O1).alloc O2).cell? ⟨b, o, none⟩ = some (.int .u8 5) := fun O1 O2 => ((hat.alloc O1).alloc O2).2 0 _ rfl
  have HI := Lib.hid (show Tryd.prog.info? 5 = some i0 ∧ i0.size = 1 from ⟨hi, hsz⟩)
  have hq : At w b (cutO o c 1) (nums8 q) := by have := hat.drop c 1 (by simpa [nums8] using hcap); simpa [nums8] using this
  have HQ := Lib.hid hq
  have HX := Lib.hid hx.cons.2
  clear hi hz0 hsz hby hat hq hx
  go_enter Tryd.func42, Tryd.ntmps42
  go_wp2
  go_region
  go_wp2_with fail
  refine (float_short _ _ _ _ _ _ (h3c _ _ _ _) (h3a _ _ _ _) h8).mono ?_
  rintro e w1 ⟨rfl, rfl⟩
  go_wp2_with fail
  refine (float_short _ _ _ _ _ _ (h3c _ _ _ _) (h3a _ _ _ _) (by omega)).mono ?_
  rintro e w1 ⟨rfl, rfl⟩
  go_wp2
  refine bodyPost_ret (v := .tuple #[.agg #[.int .i64 0, .bool false, .int .i64 0, .float .f64 0, .complex .f64 0 0, .slice none 0 0, .slice none 0 0], .slice none 0 0, .int .i64 40]) (by simp [results, Tryd.results42, go_sem]) rfl ?_
  exact TakePost.bad (by repeat (first | exact Below.refl _ _ | apply Below.drew | refine Below.alloc ?_ (by first | (simp; done) | (simp; omega)) _ | refine Below.setCell ?_ (by first | (simp; done) | (simp; omega)) _)) (by simp [takeS]; omega) (by omega)
set_option maxRecDepth 100000 in
set_option maxHeartbeats 1000000 in
theorem take_point_mid_tt (f : Nat) (w : World) (b o : Nat) (q : List Int) (c : Nat) (deep : Nat) (hat : At w b o (nums8 (5 :: q))) (hx : Byt (5 :: q)) (hcap : q.length + 1 ≤ c) (hm : q.length ≤ 1099511627776) (h8 : 8 ≤ q.length) (h16 : q.length < 16) (hd1 : decide (cleanB (unrankB (be8 (q.take 8))) = unrankB (be8 (q.take 8))) = true) :
    Calls Tryd.prog 42 #[.slice (some ⟨b, o, none⟩) (q.length + 1) c, .int .i64 deep] w (TakePost w b (f + 1) (5 :: q) deep) := by
  obtain ⟨i0, hi, hz0, hsz, hby⟩ := info_parts info5
  have hc2 := cutFrom 24 5 Tryd.underlying24 hi hsz (some ⟨b, o, none⟩) (q.length + 1) c 1 1 rfl (by omega)
  rw [cutA_some, Nat.add_sub_cancel] at hc2
  have hpos : 0 < q.length + 1 := by omega
  have hlt := hat.1
  have hcell : ∀ O1 O2, ((w.alloc O1).alloc O2).cell? ⟨b, o, none⟩ = some (.int .u8 5) := fun O1 O2 => ((hat.alloc O1).alloc O2).2 0 _ rfl
  have HI := Lib.hid (show Tryd.prog.info? 5 = some i0 ∧ i0.size = 1 from ⟨hi, hsz⟩)
  have hq : At w b (cutO o c 1) (nums8 q) := by have := hat.drop c 1 (by simpa [nums8] using hcap); simpa [nums8] using this
  have HQ := Lib.hid hq
  have HX := Lib.hid hx.cons.2
  clear hi hz0 hsz hby hat hq hx
  go_enter Tryd.func42, Tryd.ntmps42
  go_wp2
  go_region
  go_wp2_with fail
  refine (float_long _ _ _ _ q _ (h3c _ _ _ _) (h3a _ _ _ _) (At.row (by repeat (first | exact HQ.out | apply At.drew | apply At.alloc))) HX.out (by omega) h8).mono ?_
  rintro e w1 ⟨rfl, rfl⟩
  go_wp2_with fail
  refine (float_short _ _ _ _ _ _ (h3c _ _ _ _) (h3a _ _ _ _) (by omega)).mono ?_
  rintro e w1 ⟨rfl, rfl⟩
  go_wp2
  refine bodyPost_ret (v := .tuple #[.agg #[.int .i64 0, .bool false, .int .i64 0, .float .f64 0, .complex .f64 0 0, .slice none 0 0, .slice none 0 0], .slice none 0 0, .int .i64 40]) (by simp [results, Tryd.results42, go_sem]) rfl ?_
  exact TakePost.bad (by repeat (first | exact Below.refl _ _ | apply Below.drew | refine Below.alloc ?_ (by first | (simp; done) | (simp; omega)) _ | refine Below.setCell ?_ (by first | (simp; done) | (simp; omega)) _)) (by simp [takeS, h16]) (by omega)
set_option maxRecDepth 100000 in
set_option maxHeartbeats 1000000 in
theorem take_point_mid_ff (f : Nat) (w : World) (b o : Nat) (q : List Int) (c : Nat) (deep : Nat) (hat : At w b o (nums8 (5 :: q))) (hx : Byt (5 :: q)) (hcap : q.length + 1 ≤ c) (hm : q.length ≤ 1099511627776) (h8 : 8 ≤ q.length) (h16 : q.length < 16) (hd1 : decide (cleanB (unrankB (be8 (q.take 8))) = unrankB (be8 (q.take 8))) = false) :
    Calls Tryd.prog 42 #[.slice (some ⟨b, o, none⟩) (q.length + 1) c, .int .i64 deep] w (TakePost w b (f + 1) (5 :: q) deep) := by
  obtain ⟨i0, hi, hz0, hsz, hby⟩ := info_parts info5
  have hc2 := cutFrom 24 5 Tryd.underlying24 hi hsz (some ⟨b, o, none⟩) (q.length + 1) c 1 1 rfl (by omega)
  rw [cutA_some, Nat.add_sub_cancel] at hc2
  have hpos : 0 < q.length + 1 := by omega
  have hlt := hat.1
  have hcell : ∀ O1 O2, ((w.alloc O1).alloc O2).cell? ⟨b, o, none⟩ = some (.int .u8 5) := fun O1 O2 => ((hat.alloc O1).alloc O2).2 0 _ rfl
  have HI := Lib.hid (show Tryd.prog.info? 5 = some i0 ∧ i0.size = 1 from ⟨hi, hsz⟩)
  have hq : At w b (cutO o c 1) (nums8 q) := by have := hat.drop c 1 (by simpa [nums8] using hcap); simpa [nums8] using this
  have HQ := Lib.hid hq
  have HX := Lib.hid hx.cons.2
  clear hi hz0 hsz hby hat hq hx
  go_enter Tryd.func42, Tryd.ntmps42
  go_wp2
  go_region
  go_wp2_with fail
  refine (float_long _ _ _ _ q _ (h3c _ _ _ _) (h3a _ _ _ _) (At.row (by repeat (first | exact HQ.out | apply At.drew | apply At.alloc))) HX.out (by omega) h8).mono ?_
  rintro e w1 ⟨rfl, rfl⟩
  go_wp2_with fail
  refine (float_short _ _ _ _ _ _ (h3c _ _ _ _) (h3a _ _ _ _) (by omega)).mono ?_
  rintro e w1 ⟨rfl, rfl⟩
  go_wp2
  refine bodyPost_ret (v := .tuple #[.agg #[.int .i64 0, .bool false, .int .i64 0, .float .f64 0, .complex .f64 0 0, .slice none 0 0, .slice none 0 0], .slice none 0 0, .int .i64 40]) (by simp [results, Tryd.results42, go_sem]) rfl ?_
  exact TakePost.bad (by repeat (first | exact Below.refl _ _ | apply Below.drew | refine Below.alloc ?_ (by first | (simp; done) | (simp; omega)) _ | refine Below.setCell ?_ (by first | (simp; done) | (simp; omega)) _)) (by simp [takeS, h16]) (by omega)
set_option maxRecDepth 100000 in
set_option maxHeartbeats 1000000 in
theorem take_point_bad_tf (f : Nat) (w : World) (b o : Nat) (q : List Int) (c : Nat) (deep : Nat) (hat : At w b o (nums8 (5 :: q))) (hx : Byt (5 :: q)) (hcap : q.length + 1 ≤ c) (hm : q.length ≤ 1099511627776) (h8 : 8 ≤ q.length) (h16 : 16 ≤ q.length) (hn : ¬ (cleanB (unrankB (be8 (q.take 8))) = unrankB (be8 (q.take 8)) ∧ cleanB (unrankB (be8 ((q.drop 8).take 8))) = unrankB (be8 ((q.drop 8).take 8)))) (hd1 : decide (cleanB (unrankB (be8 (q.take 8))) = unrankB (be8 (q.take 8))) = true) (hd2 : decide (cleanB (unrankB (be8 ((q.drop 8).take 8))) = unrankB (be8 ((q.drop 8).take 8))) = false) :
    Calls Tryd.prog 42 #[.slice (some ⟨b, o, none⟩) (q.length + 1) c, .int .i64 deep] w (TakePost w b (f + 1) (5 :: q) deep) := by
  obtain ⟨i0, hi, hz0, hsz, hby⟩ := info_parts info5
  have hc2 := cutFrom 24 5 Tryd.underlying24 hi hsz (some ⟨b, o, none⟩) (q.length + 1) c 1 1 rfl (by omega)
  rw [cutA_some, Nat.add_sub_cancel] at hc2
  have hpos : 0 < q.length + 1 := by omega
  have hlt := hat.1
  have hcell : ∀ O1 O2, ((w.alloc O1).alloc O2).cell? ⟨b, o, none⟩ = some (.int .u8 5) := fun O1 O2 => ((hat.alloc O1).alloc O2).2 0 _ rfl
  have HI := Lib.hid (show Tryd.prog.info? 5 = some i0 ∧ i0.size = 1 from ⟨hi, hsz⟩)
  have hq : At w b (cutO o c 1) (nums8 q) := by have := hat.drop c 1 (by simpa [nums8] using hcap); simpa [nums8] using this
  have HQ := Lib.hid hq
  have HX := Lib.hid hx.cons.2
  clear hi hz0 hsz hby hat hq hx
  go_enter Tryd.func42, Tryd.ntmps42
  have hr8 : At w b (cutO (cutO o c 1) (c - 1) 8) (nums8 (q.drop 8)) := by rw [nums8_drop]; exact HQ.out.drop (c - 1) 8 (by simp; omega)
  have HR8 := Lib.hid hr8
  clear hr8
  have HN := Lib.hid hn
  clear hn
  go_wp2
  go_region
  go_wp2_with fail
  refine (float_long _ _ _ _ q _ (h3c _ _ _ _) (h3a _ _ _ _) (At.row (by repeat (first | exact HQ.out | apply At.drew | apply At.alloc))) HX.out (by omega) h8).mono ?_
  rintro e w1 ⟨rfl, rfl⟩
  go_wp2_with fail
  rw [cutA_some, show q.length - 8 = (q.drop 8).length by simp]
  refine (float_long _ _ _ _ (q.drop 8) _ (h3c _ _ _ _) (h3a _ _ _ _) (At.row (by repeat (first | exact HR8.out | apply At.drew | apply At.alloc))) (HX.out.drop 8) (by simp; omega) (by simp; omega)).mono ?_
  rintro e w1 ⟨rfl, rfl⟩
  go_wp2
  refine bodyPost_ret (v := .tuple #[.agg #[.int .i64 0, .bool false, .int .i64 0, .float .f64 0, .complex .f64 0 0, .slice none 0 0, .slice none 0 0], .slice none 0 0, .int .i64 40]) (by simp [results, Tryd.results42, go_sem]) rfl ?_
  exact TakePost.bad (by repeat (first | exact Below.refl _ _ | apply Below.drew | refine Below.alloc ?_ (by first | (simp; done) | (simp; omega)) _ | refine Below.setCell ?_ (by first | (simp; done) | (simp; omega)) _)) (by have := HN.out; simp only [takeS]; rw [if_neg (by omega), if_neg (by omega), if_neg (by omega), if_neg (by omega), if_pos trivial, if_neg (by omega), if_neg this]) (by omega)
set_option maxRecDepth 100000 in
set_option maxHeartbeats 1000000 in
theorem take_point_bad_ft (f : Nat) (w : World) (b o : Nat) (q : List Int) (c : Nat) (deep : Nat) (hat : At w b o (nums8 (5 :: q))) (hx : Byt (5 :: q)) (hcap : q.length + 1 ≤ c) (hm : q.length ≤ 1099511627776) (h8 : 8 ≤ q.length) (h16 : 16 ≤ q.length) (hn : ¬ (cleanB (unrankB (be8 (q.take 8))) = unrankB (be8 (q.take 8)) ∧ cleanB (unrankB (be8 ((q.drop 8).take 8))) = unrankB (be8 ((q.drop 8).take 8)))) (hd1 : decide (cleanB (unrankB (be8 (q.take 8))) = unrankB (be8 (q.take 8))) = false) (hd2 : decide (cleanB (unrankB (be8 ((q.drop 8).take 8))) = unrankB (be8 ((q.drop 8).take 8))) = true) :
    Calls Tryd.prog 42 #[.slice (some ⟨b, o, none⟩) (q.length + 1) c, .int .i64 deep] w (TakePost w b (f + 1) (5 :: q) deep) := by
  obtain ⟨i0, hi, hz0, hsz, hby⟩ := info_parts info5
  have hc2 := cutFrom 24 5 Tryd.underlying24 hi hsz (some ⟨b, o, none⟩) (q.length + 1) c 1 1 rfl (by omega)
  rw [cutA_some, Nat.add_sub_cancel] at hc2
  have hpos : 0 < q.length + 1 := by omega
  have hlt := hat.1
  have hcell : ∀ O1 O2, ((w.alloc O1).alloc O2).cell? ⟨b, o, none⟩ = some (.int .u8 5) := fun O1 O2 => ((hat.alloc O1).alloc O2).2 0 _ rfl
  have HI := Lib.hid (show Tryd.prog.info? 5 = some i0 ∧ i0.size = 1 from ⟨hi, hsz⟩)
  have hq : At w b (cutO o c 1) (nums8 q) := by have := hat.drop c 1 (by simpa [nums8] using hcap); simpa [nums8] using this
  have HQ := Lib.hid hq
  have HX := Lib.hid hx.cons.2
  clear hi hz0 hsz hby hat hq hx
  go_enter Tryd.func42, Tryd.ntmps42
  have hr8 : At w b (cutO (cutO o c 1) (c - 1) 8) (nums8 (q.drop 8)) := by rw [nums8_drop]; exact HQ.out.drop (c - 1) 8 (by simp; omega)
  have HR8 := Lib.hid hr8
  clear hr8
  have HN := Lib.hid hn
  clear hn
  go_wp2
  go_region
  go_wp2_with fail
  refine (float_long _ _ _ _ q _ (h3c _ _ _ _) (h3a _ _ _ _) (At.row (by repeat (first | exact HQ.out | apply At.drew | apply At.alloc))) HX.out (by omega) h8).mono ?_
  rintro e w1 ⟨rfl, rfl⟩
  go_wp2_with fail
  rw [cutA_some, show q.length - 8 = (q.drop 8).length by simp]
  refine (float_long _ _ _ _ (q.drop 8) _ (h3c _ _ _ _) (h3a _ _ _ _) (At.row (by repeat (first | exact HR8.out | apply At.drew | apply At.alloc))) (HX.out.drop 8) (by simp; omega) (by simp; omega)).mono ?_
  rintro e w1 ⟨rfl, rfl⟩
  go_wp2
  refine bodyPost_ret (v := .tuple #[.agg #[.int .i64 0, .bool false, .int .i64 0, .float .f64 0, .complex .f64 0 0, .slice none 0 0, .slice none 0 0], .slice none 0 0, .int .i64 40]) (by simp [results, Tryd.results42, go_sem]) rfl ?_
  exact TakePost.bad (by repeat (first | exact Below.refl _ _ | apply Below.drew | refine Below.alloc ?_ (by first | (simp; done) | (simp; omega)) _ | refine Below.setCell ?_ (by first | (simp; done) | (simp; omega)) _)) (by have := HN.out; simp only [takeS]; rw [if_neg (by omega), if_neg (by omega), if_neg (by omega), if_neg (by omega), if_pos trivial, if_neg (by omega), if_neg this]) (by omega)
set_option maxRecDepth 100000 in
set_option maxHeartbeats 1000000 in
theorem take_point_bad_ff (f : Nat) (w : World) (b o : Nat) (q : List Int) (c : Nat) (deep : Nat) (hat : At w b o (nums8 (5 :: q))) (hx : Byt (5 :: q)) (hcap : q.length + 1 ≤ c) (hm : q.length ≤ 1099511627776) (h8 : 8 ≤ q.length) (h16 : 16 ≤ q.length) (hn : ¬ (cleanB (unrankB (be8 (q.take 8))) = unrankB (be8 (q.take 8)) ∧ cleanB (unrankB (be8 ((q.drop 8).take 8))) = unrankB (be8 ((q.drop 8).take 8)))) (hd1 : decide (cleanB (unrankB (be8 (q.take 8))) = unrankB (be8 (q.take 8))) = false) (hd2 : decide (cleanB (unrankB (be8 ((q.drop 8).take 8))) = unrankB (be8 ((q.drop 8).take 8))) = false) :
    Calls Tryd.prog 42 #[.slice (some ⟨b, o, none⟩) (q.length + 1) c, .int .i64 deep] w (TakePost w b (f + 1) (5 :: q) deep) := by
  obtain ⟨i0, hi, hz0, hsz, hby⟩ := info_parts info5
  have hc2 := cutFrom 24 5 Tryd.underlying24 hi hsz (some ⟨b, o, none⟩) (q.length + 1) c 1 1 rfl (by omega)
  rw [cutA_some, Nat.add_sub_cancel] at hc2
  have hpos : 0 < q.length + 1 := by omega
  have hlt := hat.1
  have hcell : ∀ O1 O2, ((w.alloc O1).alloc O2).cell? ⟨b, o, none⟩ = some (.int .u8 5) := fun O1 O2 => ((hat.alloc O1).alloc O2).2 0 _ rfl
  have HI := Lib.hid (show Tryd.prog.info? 5 = some i0 ∧ i0.size = 1 from ⟨hi, hsz⟩)
  have hq : At w b (cutO o c 1) (nums8 q) := by have := hat.drop c 1 (by simpa [nums8] using hcap); simpa [nums8] using this
  have HQ := Lib.hid hq
  have HX := Lib.hid hx.cons.2
  clear hi hz0 hsz hby hat hq hx
  go_enter Tryd.func42, Tryd.ntmps42
  have hr8 : At w b (cutO (cutO o c 1) (c - 1) 8) (nums8 (q.drop 8)) := by rw [nums8_drop]; exact HQ.out.drop (c - 1) 8 (by simp; omega)
  have HR8 := Lib.hid hr8
  clear hr8
  have HN := Lib.hid hn
  clear hn
  go_wp2
  go_region
  go_wp2_with fail
  refine (float_long _ _ _ _ q _ (h3c _ _ _ _) (h3a _ _ _ _) (At.row (by repeat (first | exact HQ.out | apply At.drew | apply At.alloc))) HX.out (by omega) h8).mono ?_
  rintro e w1 ⟨rfl, rfl⟩
  go_wp2_with fail
  rw [cutA_some, show q.length - 8 = (q.drop 8).length by simp]
  refine (float_long _ _ _ _ (q.drop 8) _ (h3c _ _ _ _) (h3a _ _ _ _) (At.row (by repeat (first | exact HR8.out | apply At.drew | apply At.alloc))) (HX.out.drop 8) (by simp; omega) (by simp; omega)).mono ?_
  rintro e w1 ⟨rfl, rfl⟩
  go_wp2
  refine bodyPost_ret (v := .tuple #[.agg #[.int .i64 0, .bool false, .int .i64 0, .float .f64 0, .complex .f64 0 0, .slice none 0 0, .slice none 0 0], .slice none 0 0, .int .i64 40]) (by simp [results, Tryd.results42, go_sem]) rfl ?_
  exact TakePost.bad (by repeat (first | exact Below.refl _ _ | apply Below.drew | refine Below.alloc ?_ (by first | (simp; done) | (simp; omega)) _ | refine Below.setCell ?_ (by first | (simp; done) | (simp; omega)) _)) (by have := HN.out; simp only [takeS]; rw [if_neg (by omega), if_neg (by omega), if_neg (by omega), if_neg (by omega), if_pos trivial, if_neg (by omega), if_neg this]) (by omega)
set_option maxRecDepth 100000 in
set_option maxHeartbeats 1000000 in
theorem take_point (f : Nat) (w : World) (b o : Nat) (q : List Int) (c : Nat) (deep : Nat) (hat : At w b o (nums8 (5 :: q))) (hx : Byt (5 :: q)) (hcap : q.length + 1 ≤ c) (hm : q.length ≤ 1099511627776) (h8 : 8 ≤ q.length) (h16 : 16 ≤ q.length) (hn1 : cleanB (unrankB (be8 (q.take 8))) = unrankB (be8 (q.take 8))) (hn2 : cleanB (unrankB (be8 ((q.drop 8).take 8))) = unrankB (be8 ((q.drop 8).take 8))) :
    Calls Tryd.prog 42 #[.slice (some ⟨b, o, none⟩) (q.length + 1) c, .int .i64 deep] w (TakePost w b (f + 1) (5 :: q) deep) := by
  obtain ⟨i0, hi, hz0, hsz, hby⟩ := info_parts info5
  have hc2 := cutFrom 24 5 Tryd.underlying24 hi hsz (some ⟨b, o, none⟩) (q.length + 1) c 1 1 rfl (by omega)
  rw [cutA_some, Nat.add_sub_cancel] at hc2
  have hpos : 0 < q.length + 1 := by omega
  have hlt := hat.1
  have hcell : ∀ O1 O2, ((w.alloc O1).alloc O2).cell? ⟨b, o, none⟩ = some (.int .u8 5) := fun O1 O2 => ((hat.alloc O1).alloc O2).2 0 _ rfl
  have HI := Lib.hid (show Tryd.prog.info? 5 = some i0 ∧ i0.size = 1 from ⟨hi, hsz⟩)
  have hq : At w b (cutO o c 1) (nums8 q) := by have := hat.drop c 1 (by simpa [nums8] using hcap); simpa [nums8] using this
  have HQ := Lib.hid hq
  have HX := Lib.hid hx.cons.2
  clear hi hz0 hsz hby hat hq hx
  go_enter Tryd.func42, Tryd.ntmps42
  have hr8 : At w b (cutO (cutO o c 1) (c - 1) 8) (nums8 (q.drop 8)) := by rw [nums8_drop]; exact HQ.out.drop (c - 1) 8 (by simp; omega)
  have HR8 := Lib.hid hr8
  clear hr8
  have hd1 : decide (cleanB (unrankB (be8 (q.take 8))) = unrankB (be8 (q.take 8))) = true := decide_eq_true hn1
  have hd2 : decide (cleanB (unrankB (be8 ((q.drop 8).take 8))) = unrankB (be8 ((q.drop 8).take 8))) = true := decide_eq_true hn2
  have HN := Lib.hid (show cleanB (unrankB (be8 (q.take 8))) = unrankB (be8 (q.take 8)) ∧ cleanB (unrankB (be8 ((q.drop 8).take 8))) = unrankB (be8 ((q.drop 8).take 8)) from ⟨hn1, hn2⟩)
  have hr : At w b (cutO (cutO (cutO o c 1) (c - 1) 8) (c - 1 - 8) 8) (nums8 ((q.drop 8).drop 8)) := by rw [nums8_drop]; exact HR8.out.drop (c - 1 - 8) 8 (by simp; omega)
  have HR := Lib.hid hr
  clear hn1 hn2 hr
  go_wp2
  go_region
  go_wp2_with fail
  refine (float_long _ _ _ _ q _ (h3c _ _ _ _) (h3a _ _ _ _) (At.row (by repeat (first | exact HQ.out | apply At.drew | apply At.alloc))) HX.out (by omega) h8).mono ?_
  rintro e w1 ⟨rfl, rfl⟩
  go_wp2_with fail
  rw [cutA_some, show q.length - 8 = (q.drop 8).length by simp]
  refine (float_long _ _ _ _ (q.drop 8) _ (h3c _ _ _ _) (h3a _ _ _ _) (At.row (by repeat (first | exact HR8.out | apply At.drew | apply At.alloc))) (HX.out.drop 8) (by simp; omega) (by simp; omega)).mono ?_
  rintro e w1 ⟨rfl, rfl⟩
  go_wp2
  rw [cutA_some]
  go_region
  go_wp2
  refine bodyPost_ret (v := .tuple #[.agg #[.int .i64 5, .bool false, .int .i64 0, .float .f64 0, .complex .f64 (unrankB (be8 (q.take 8))) (unrankB (be8 ((q.drop 8).take 8))), .slice none 0 0, .slice none 0 0], .slice (some ⟨b, cutO (cutO (cutO o c 1) (c - 1) 8) (c - 1 - 8) 8, none⟩) ((q.drop 8).length - 8) (c - 1 - 8 - 8), .int .i64 0]) (by simp [results, Tryd.results42, go_sem]) rfl ?_
  rw [show (q.drop 8).length - 8 = ((q.drop 8).drop 8).length by simp; try omega]
  exact TakePost.leaf (s := ⟨5, false, 0, unrankB (be8 (q.take 8)), unrankB (be8 ((q.drop 8).take 8))⟩) (by repeat (first | exact Below.refl _ _ | apply Below.drew | refine Below.alloc ?_ (by first | (simp; done) | (simp; omega)) _ | refine Below.setCell ?_ (by first | (simp; done) | (simp; omega)) _)) (by have := HN.out; simp only [takeS]; rw [if_neg (by omega), if_neg (by omega), if_neg (by omega), if_neg (by omega), if_pos trivial, if_neg (by omega), if_pos this]; simp) (by repeat (first | exact HR.out | apply At.drew | (refine At.setCell ?_ (by simp; omega) _) | apply At.alloc)) (by first | omega | (simp; omega))
end Go.Proofs.YtplfmpcoojkjlaaDoor
