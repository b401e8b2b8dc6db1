/- A line whose first word is no command, and "round" where no cluster is. "round" where no cluster is; "servers 9"; "begin". "servers 9"; "begin" with nine servers. -/
import Derived.Test.YtndpldhglnblfaaGreatDoorS16
namespace Go.Proofs.YtndpldhglnblfaaGreatDoor
open Go.RowKit Go.Maps Go.Lib
theorem tab_below {w w' : World} {nm : String} {k : IntKind} {zs : List Int} (h : TabIs Tryz.prog w nm k zs) (hb : Below w.heap.size w w') : TabIs Tryz.prog w' nm k zs := by
  unfold TabIs World.var? at h ⊢
  cases hg : Tryz.prog.globalNamed nm with
  | none => simp [hg] at h
  | some g =>
    simp only [hg, Option.bind_some] at h ⊢
    have hlt : g < w.heap.size := by
      rcases Nat.lt_or_ge g w.heap.size with h' | h'
      · exact h'
      · simp [Array.getElem?_eq_none h'] at h
    rw [hb.block g hlt]
    exact h
section
variable {w : World} {S M n : Nat} {D : DataW Value} {sv : Int}
theorem Live.look (h : Live w S M n D sv) {f : ByteArray} (hf : f.size ≤ maxLen) (q : Nat) : ∃ v, D.atKey (.string f.data.toList) (.held Value.nilFunc) = .held v ∧ (Instr.lookup 42 (.map (some M)) (.string f) true).run Tryz.prog (w.drewN q) = .ok (.tuple #[v, .bool (Maps.has D (.string f.data.toList))]) (w.drewN q) := by
  have ho : (w.drewN q).ownsMap Tryz.prog 9 heldR M n D := h.own
  obtain ⟨v, ps, hr, hv⟩ := ho.look_ok lawS Tryz.underlying42 (Tryz.zeroValue34 (w.drewN q)) (show heldR Value.nilFunc = some (.held Value.nilFunc, []) from rfl) (Go.WideMaps.keyOf_string_mk Tryz.underlying9 (s := f) hf)
  refine ⟨v, ?_, hr⟩
  have h1 := congrArg (fun x => x.map (·.1)) hv
  simp [heldR] at h1
  exact h1.symm
theorem Live.look_at (h : Live w S M n D sv) {f : ByteArray} (hf : f.size ≤ maxLen) {v : Value} (hv : ∀ z, D.atKey (.string f.data.toList) z = .held v) (q : Nat) : (Instr.lookup 42 (.map (some M)) (.string f) true).run Tryz.prog (w.drewN q) = .ok (.tuple #[v, .bool true]) (w.drewN q) := by
  obtain ⟨u, hu, hr⟩ := h.look hf q
  rw [hv] at hu
  obtain rfl := DataW.held.inj hu
  rw [Maps.has_true_of_atKey hv] at hr
  exact hr
theorem Live.look_all (h : Live w S M n D sv) {f : ByteArray} (hf : f.size ≤ maxLen) (hk : Maps.has D (.string f.data.toList) = false) : ∃ v, ∀ q, (Instr.lookup 42 (.map (some M)) (.string f) true).run Tryz.prog (w.drewN q) = .ok (.tuple #[v, .bool false]) (w.drewN q) := by
  obtain ⟨v, hv, _⟩ := h.look hf 0
  refine ⟨v, fun q => ?_⟩
  obtain ⟨u, hu, hr⟩ := h.look hf q
  rw [hv] at hu
  obtain rfl := DataW.held.inj hu
  rw [hk] at hr
  exact hr
end
set_option maxRecDepth 100000 in
/-- No command: the word's length says so. -/
theorem line_out (w : World) (S M n2 : Nat) (D : DataW Value) (sv : Int) (H : Live w S M n2 D sv) (htab : TabIs Tryz.prog w "internal/strconv.uint64pow10" .u64 pow10Tab) (b o n c : Nat) (s f : ByteArray) (hb : Bytes w b o s) (hn : s.size = n) (hle : n ≤ 65536)
    (hf : goFieldsP blank s = [f]) (hf0 : f.size = 65536) (hfb : ∀ h : 0 < f.size, f[0]'h = 0) :
    Calls Tryz.prog 4 #[.pointer (some ⟨S, 0, none⟩), .slice (some ⟨b, o, none⟩) n c] w fun e w' => ∃ A k, e = .returned (.tuple #[.slice (some ⟨A, 0, none⟩) 10 k, .int .i64 0]) ∧ Bytes w' A 0 e320 ∧ w.heap.size ≤ A ∧ A < w'.heap.size ∧ Below w.heap.size w w' := by
  have hc := conv_at w b o c s hb
  have hfc := fields_calls s w (by omega)
  rw [hf] at hfc
  rw [hn] at hc
  have hfz := hfb (by omega)
  have HL := Lib.hid H
  have HT := Lib.hid htab
  clear htab hf hb
  go_enter Tryz.func4, Tryz.ntmps4
  go_wp2_with (first
    | (go_at_call 8; refine hfc.mono ?_; rintro e w' ⟨A, rfl, hA, ho, hbel⟩; have hcA : w'.cell? ⟨A, 0, none⟩ = some (.string f) := (ho.cellAt 0 (by simp)); have h7 : w'.cell? ⟨S, 7, none⟩ = some (.map (some M)) := ((HL.out.below hbel).cell 7).1; clear ho))
  obtain ⟨v, hlk⟩ : ∃ v, ∀ q, (Instr.lookup 42 (.map (some M)) (.string f) true).run Tryz.prog (w'.drewN q) = .ok (.tuple #[v, .bool false]) (w'.drewN q) :=
    (HL.out.below hbel).look_all (by unfold maxLen; omega) (H.ky _ (by rw [show f.data.toList.length = f.size from by simp, hf0]; decide))
  go_quiet (fail)
  have hbs : ∀ (w : World), (convert 9 23 (.string e320)).run Tryz.prog w = .ok (.slice (some ⟨w.heap.size, 0, none⟩) 10 (grownCap w 10 0 5)) (bytesWorld w 5 e320) := fun w => Lib.run_convert_string_bytes (P := Tryz.prog) w 9 23 5 e320 Tryz.underlying9 Tryz.underlying23 Tryz.underlying5
  have htab2 : TabIs Tryz.prog (w'.drewN nq) "internal/strconv.uint64pow10" .u64 pow10Tab := tab_below HT.out (below_drewN' hbel nq)
  go_wp2_with (first
    | (go_at_call 10; refine (refused_320 _ htab2).mono ?_; rintro e w2 ⟨rfl, hb2⟩))
  go_ret2
  exact ⟨_, _, rfl, bytes_new _ _ _, by have h1 := hbel.size; have h2 := hb2.size; simp at h2; omega, by rw [bytesWorld_size]; omega, ((below_drewN' hbel nq).trans (hb2.mono hbel.size)).trans ((bytes_below _ _ _).mono (by have h1 := hbel.size; have h2 := hb2.size; simp at h2; omega))⟩
end Go.Proofs.YtndpldhglnblfaaGreatDoor
namespace Go.Proofs.YtndpldhglnblfaaGreatDoor
open Go.RowKit Go.Maps Go.Lib
theorem grown_below {w w' : World} (hb : Below w.heap.size w w') (q : Nat) : w.grownBy (w'.drewN q) none := ⟨hb.os, hb.tape, hb.output, hb.size, fun k hk _ => hb.block k hk⟩
def wRound : ByteArray := ⟨#[114, 111, 117, 110, 100]⟩
def wServers : ByteArray := ⟨#[115, 101, 114, 118, 101, 114, 115]⟩
def wBegin : ByteArray := ⟨#[98, 101, 103, 105, 110]⟩
def ok3 : ByteArray := ⟨#[111, 107, 10]⟩
set_option maxRecDepth 100000 in
theorem line_round (w : World) (S M n2 : Nat) (D : DataW Value) (sv : Int) (H : Live w S M n2 D sv) (htab : TabIs Tryz.prog w "internal/strconv.uint64pow10" .u64 pow10Tab) (b o n c : Nat) (s : ByteArray) (hb : Bytes w b o s) (hn : s.size = n) (hle : n ≤ 65536)
    (hf : goFieldsP blank s = [⟨#[114, 111, 117, 110, 100]⟩]) :
    Calls Tryz.prog 4 #[.pointer (some ⟨S, 0, none⟩), .slice (some ⟨b, o, none⟩) n c] w fun e w' => ∃ A k, e = .returned (.tuple #[.slice (some ⟨A, 0, none⟩) 10 k, .int .i64 0]) ∧ Bytes w' A 0 e320 ∧ w.heap.size ≤ A ∧ A < w'.heap.size ∧ Below w.heap.size w w' := by
  have hc := conv_at w b o c s hb
  have hfc := fields_calls s w (by omega)
  rw [hf] at hfc
  rw [hn] at hc
  have HL := Lib.hid H
  have HT := Lib.hid htab
  obtain ⟨v, hat, b1, b2, hv, hb1, _⟩ := H.rnd
  subst hv
  have HA := Lib.hid hat
  have HB := Lib.hid hb1
  clear htab hf hb hat hb1 H
  go_enter Tryz.func4, Tryz.ntmps4
  go_wp2_with (first
    | (go_at_call 8; refine hfc.mono ?_; rintro e w' ⟨A, rfl, hA, ho, hbel⟩; have hcA : w'.cell? ⟨A, 0, none⟩ = some (.string ⟨#[114, 111, 117, 110, 100]⟩) := (ho.cellAt 0 (by simp)); have h7 : w'.cell? ⟨S, 7, none⟩ = some (.map (some M)) := ((HL.out.below hbel).cell 7).1; clear ho))
  have hlk : ∀ q, (Instr.lookup 42 (.map (some M)) (.string ⟨#[114, 111, 117, 110, 100]⟩) true).run Tryz.prog (w'.drewN q) = .ok (.tuple #[.func (.func 53) #[] #[.pointer (some ⟨b1, 0, none⟩), .pointer (some ⟨b1 + 1, 0, none⟩)], .bool true]) (w'.drewN q) :=
    (HL.out.below hbel).look_at (by decide) HA.out
  go_quiet (fail)
  have hbs : ∀ (w : World), (convert 9 23 (.string e320)).run Tryz.prog w = .ok (.slice (some ⟨w.heap.size, 0, none⟩) 10 (grownCap w 10 0 5)) (bytesWorld w 5 e320) := fun w => Lib.run_convert_string_bytes (P := Tryz.prog) w 9 23 5 e320 Tryz.underlying9 Tryz.underlying23 Tryz.underlying5
  have htab2 : TabIs Tryz.prog (w'.drewN nq) "internal/strconv.uint64pow10" .u64 pow10Tab := tab_below HT.out (below_drewN' hbel nq)
  go_wp2_with (first
    | (go_at_call 53; refine (during1_calls _ _ b1 S sv M ((kc_none (grown_below hbel nq)) _ _ _ HB.out) ((kc_none (grown_below hbel nq)) _ _ _ HL.out.blk)).mono ?_; rintro e w2 ⟨rfl, rfl⟩)
    | (go_at_call 10; refine (refused_320 _ htab2).mono ?_; rintro e w2 ⟨rfl, hb2⟩))
  go_ret2
  exact ⟨_, _, rfl, bytes_new _ _ _, by have h1 := hbel.size; have h2 := hb2.size; simp at h2; omega, by rw [bytesWorld_size]; omega, ((below_drewN' hbel nq).trans (hb2.mono hbel.size)).trans ((bytes_below _ _ _).mono (by have h1 := hbel.size; have h2 := hb2.size; simp at h2; omega))⟩
end Go.Proofs.YtndpldhglnblfaaGreatDoor
namespace Go.Proofs.YtndpldhglnblfaaGreatDoor
open Go.RowKit Go.Maps Go.Lib
theorem grown_trans {w1 w2 w3 : World} {S : Nat} (h : w1.grownBy w2 none) (k : w2.grownBy w3 (some S)) : w1.grownBy w3 (some S) :=
  ⟨k.os.trans h.os, k.tape.trans h.tape, k.output.trans h.output, Nat.le_trans h.size k.size, fun j hj hne => (k.block j (Nat.lt_of_lt_of_le hj h.size) hne).trans (h.block j hj (by simp))⟩
theorem grown_below2 {w1 w2 w3 : World} {r : Option Nat} (h : w1.grownBy w2 r) (k : Below w2.heap.size w2 w3) : w1.grownBy w3 r :=
  ⟨k.os.trans h.os, k.tape.trans h.tape, k.output.trans h.output, Nat.le_trans h.size k.size, fun j hj hne => (k.block j (Nat.lt_of_lt_of_le hj h.size)).trans (h.block j hj hne)⟩
set_option maxRecDepth 100000 in
set_option maxHeartbeats 2000000 in
theorem line_servers (w : World) (S M n2 : Nat) (D : DataW Value) (sv : Int) (H : Live w S M n2 D sv) (b o n c : Nat) (s : ByteArray) (hb : Bytes w b o s) (hn : s.size = n) (hle : n ≤ 65536)
    (hf : goFieldsP blank s = [⟨#[115, 101, 114, 118, 101, 114, 115]⟩, ⟨#[57]⟩]) :
    Calls Tryz.prog 4 #[.pointer (some ⟨S, 0, none⟩), .slice (some ⟨b, o, none⟩) n c] w fun e w' => ∃ A k, e = .returned (.tuple #[.slice (some ⟨A, 0, none⟩) 3 k, .int .i64 0]) ∧ Bytes w' A 0 ok3 ∧ w.heap.size ≤ A ∧ A < w'.heap.size ∧ w.grownBy w' (some S) ∧ Live w' S M n2 D 9 := by
  have hc := conv_at w b o c s hb
  have hfc := fields_calls s w (by omega)
  rw [hf] at hfc
  rw [hn] at hc
  have HL := Lib.hid H
  obtain ⟨v, hat, b1, f, x, y, hv, hb1, hb2, b3, he, hb3⟩ := H.ser
  subst hv
  rw [he] at hb2
  have HA := Lib.hid hat
  have HB := Lib.hid (show _ ∧ _ ∧ _ from ⟨hb1, hb2, hb3⟩)
  clear hf hb hat hb1 hb2 hb3 H he
  go_enter Tryz.func4, Tryz.ntmps4
  go_wp2_with (first
    | (go_at_call 8; refine hfc.mono ?_; rintro e w' ⟨A, rfl, hA, ho, hbel⟩; have hcA : w'.cell? ⟨A, 0, none⟩ = some (.string ⟨#[115, 101, 114, 118, 101, 114, 115]⟩) := (ho.cellAt 0 (by simp)); have hcB : w'.cell? ⟨A, 1, none⟩ = some (.string ⟨#[57]⟩) := (ho.cellAt 1 (by simp)); have h7 : w'.cell? ⟨S, 7, none⟩ = some (.map (some M)) := ((HL.out.below hbel).cell 7).1; clear ho))
  have hlk : ∀ q, (Instr.lookup 42 (.map (some M)) (.string ⟨#[115, 101, 114, 118, 101, 114, 115]⟩) true).run Tryz.prog (w'.drewN q) = .ok (.tuple #[.func (.func 38) #[] #[.pointer (some ⟨b1, 0, none⟩), .pointer (some ⟨b1 + 1, 0, none⟩)], .bool true]) (w'.drewN q) :=
    (HL.out.below hbel).look_at (by decide) HA.out
  go_quiet (fail)
  have hbs : ∀ (w : World), (convert 9 23 (.string ⟨#[111, 107, 10]⟩)).run Tryz.prog w = .ok (.slice (some ⟨w.heap.size, 0, none⟩) 3 (grownCap w 3 0 5)) (bytesWorld w 5 ok3) := fun w => Lib.run_convert_string_bytes (P := Tryz.prog) w 9 23 5 ok3 Tryz.underlying9 Tryz.underlying23 Tryz.underlying5
  go_wp2_with (first
    | (go_at_call 38; refine (ahead1_num _ A 1 b1 b3 S 1 sv M ((kc_none (grown_below hbel nq)) _ _ _ HB.out.1) ((kc_none (grown_below hbel nq)) _ _ _ HB.out.2.1) ((kc_none (grown_below hbel nq)) _ _ _ HB.out.2.2) ((kc_none (grown_below hbel nq)) _ _ _ HL.out.blk) hcB).mono ?_; rintro e w2 ⟨rfl, rfl⟩))
  go_ret2
  have hg := grown_below hbel nq
  have hL2 := (HL.out.grown hg).set0 9
  have hS := set_grown (w'.drewN nq) ⟨S, 0, none⟩ (.int .i64 9)
  have hgs := grown_trans hg hS
  have hsz : ((w'.drewN nq).setCell ⟨S, 0, none⟩ (.int .i64 9)).heap.size = w'.heap.size := by simp [World.setCell]
  have hbn := bytes_new ((w'.drewN nq).setCell ⟨S, 0, none⟩ (.int .i64 9)) 5 ok3
  rw [hsz] at hbn
  exact ⟨_, _, rfl, hbn, hbel.size, by rw [bytesWorld_size, hsz]; omega, grown_below2 hgs (bytes_below _ _ _), hL2.below (bytes_below _ _ _)⟩
set_option maxRecDepth 100000 in
set_option maxHeartbeats 2000000 in
theorem line_begin (w : World) (S M n2 : Nat) (D : DataW Value) (H : Live w S M n2 D 9) (b o n c : Nat) (s : ByteArray) (hb : Bytes w b o s) (hn : s.size = n) (hle : n ≤ 65536)
    (hf : goFieldsP blank s = [⟨#[98, 101, 103, 105, 110]⟩]) :
    Calls Tryz.prog 4 #[.pointer (some ⟨S, 0, none⟩), .slice (some ⟨b, o, none⟩) n c] w fun e w' => ∃ A k, e = .returned (.tuple #[.slice (some ⟨A, 0, none⟩) 8 k, .int .i64 0]) ∧ Bytes w' A 0 e2 ∧ w.heap.size ≤ A ∧ A < w'.heap.size ∧ Below w.heap.size w w' := by
  have hc := conv_at w b o c s hb
  have hfc := fields_calls s w (by omega)
  rw [hf] at hfc
  rw [hn] at hc
  have HL := Lib.hid H
  obtain ⟨v, hat, b1, f, x, y, hv, hb1, hb2, he⟩ := H.beg
  subst hv
  have he' : Value.func f x y = .func (.func 18) #[.pointer (some ⟨S, 0, none⟩)] #[] := he
  rw [he'] at hb2
  have HA := Lib.hid hat
  have HB := Lib.hid (show _ ∧ _ from ⟨hb1, hb2⟩)
  clear hf hb hat hb1 hb2 H he he'
  go_enter Tryz.func4, Tryz.ntmps4
  go_wp2_with (first
    | (go_at_call 8; refine hfc.mono ?_; rintro e w' ⟨A, rfl, hA, ho, hbel⟩; have hcA : w'.cell? ⟨A, 0, none⟩ = some (.string ⟨#[98, 101, 103, 105, 110]⟩) := (ho.cellAt 0 (by simp)); have h7 : w'.cell? ⟨S, 7, none⟩ = some (.map (some M)) := ((HL.out.below hbel).cell 7).1; clear ho))
  have hlk : ∀ q, (Instr.lookup 42 (.map (some M)) (.string ⟨#[98, 101, 103, 105, 110]⟩) true).run Tryz.prog (w'.drewN q) = .ok (.tuple #[.func (.func 38) #[] #[.pointer (some ⟨b1, 0, none⟩), .pointer (some ⟨b1 + 1, 0, none⟩)], .bool true]) (w'.drewN q) :=
    (HL.out.below hbel).look_at (by decide) HA.out
  go_quiet (fail)
  have hbs : ∀ (w : World), (convert 9 23 (.string e2)).run Tryz.prog w = .ok (.slice (some ⟨w.heap.size, 0, none⟩) 8 (grownCap w 8 0 5)) (bytesWorld w 5 e2) := fun w => Lib.run_convert_string_bytes (P := Tryz.prog) w 9 23 5 e2 Tryz.underlying9 Tryz.underlying23 Tryz.underlying5
  go_wp2_with (first
    | (go_at_call 38; refine (ahead1_begin _ _ _ b1 S M ((kc_none (grown_below hbel nq)) _ _ _ HB.out.1) ((kc_none (grown_below hbel nq)) _ _ _ HB.out.2) ((kc_none (grown_below hbel nq)) _ _ _ HL.out.blk)).mono ?_; rintro e w2 ⟨rfl, hb2⟩))
  go_ret2
  exact ⟨_, _, rfl, bytes_new _ _ _, by have h1 := hbel.size; have h2 := hb2.size; simp at h2; omega, by rw [bytesWorld_size]; omega, ((below_drewN' hbel nq).trans (hb2.mono hbel.size)).trans ((bytes_below _ _ _).mono (by have h1 := hbel.size; have h2 := hb2.size; simp at h2; omega))⟩
end Go.Proofs.YtndpldhglnblfaaGreatDoor
