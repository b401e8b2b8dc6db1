/- The program's reading of texts: bytes.IndexByte, text. -/
import Derived.Test.YtplfmpcoojkjlaaDoorK2
import Derived.Shelf.Bytes.SlIndexAt
namespace Go.Proofs.YtplfmpcoojkjlaaDoor
open Go.RowKit Go.Proofs.YtplfmpcoojkjlaaDoorW.PrintWords

/-- Where the first 0 stands; -1: nowhere. -/
def idx0 : List Int → Int
  | [] => -1
  | c :: r => if c = 0 then 0 else if idx0 r = -1 then -1 else idx0 r + 1
theorem idx0_range (xs : List Int) : -1 ≤ idx0 xs ∧ idx0 xs < xs.length := by
  induction xs with
  | nil => decide
  | cons c r ih => unfold idx0; split <;> (try split) <;> simp <;> omega
theorem idx0_lib (xs : List Int) (h : Byt xs) : Lib.indexByte (Lib.bytesOf xs) 0 = idx0 xs := by
  induction xs with
  | nil => rfl
  | cons c r ih =>
    have h1 := ih h.cons.2
    have h2 := h.cons.1
    have hb : (UInt8.ofNat c.toNat == 0) = decide (c = 0) := by
      rw [Bool.eq_iff_iff]
      simp only [beq_iff_eq, decide_eq_true_eq]
      constructor
      · intro hc
        have h3 := congrArg UInt8.toNat hc
        simp at h3
        omega
      · rintro rfl; rfl
    show (if UInt8.ofNat c.toNat == 0 then (0 : Int) else if Lib.indexByte (Lib.bytesOf r) 0 == -1 then -1 else Lib.indexByte (Lib.bytesOf r) 0 + 1) = _
    rw [h1, hb, show idx0 (c :: r) = if c = 0 then 0 else if idx0 r = -1 then -1 else idx0 r + 1 from rfl]
    by_cases hc : c = 0 <;> simp [hc]
theorem textS_none : ∀ (xs : List Int), idx0 xs = -1 → textS xs = none
  | [], _ => rfl
  | c :: r, h => by
    unfold idx0 at h
    split at h
    · omega
    · rename_i hc
      split at h
      · rename_i h1
        unfold textS
        rw [if_neg hc, textS_none r h1]
        rfl
      · have := idx0_range r; omega
theorem textS_some : ∀ (xs : List Int) (i : Nat), idx0 xs = (i : Int) → textS xs = (textS (xs.drop i)).map (fun x => (xs.take i ++ x.1, x.2)) ∧ ∃ r, xs.drop i = 0 :: r
  | [], i, h => by simp [idx0] at h
  | c :: r, i, h => by
    unfold idx0 at h
    split at h
    · rename_i hc
      have : i = 0 := by omega
      subst this
      refine ⟨?_, r, by simp [hc]⟩
      simp
    · rename_i hc
      split at h
      · omega
      · obtain ⟨j, rfl⟩ : ∃ j, i = j + 1 := ⟨i - 1, by have := idx0_range r; omega⟩
        obtain ⟨h1, h2⟩ := textS_some r j (by omega)
        refine ⟨?_, by simpa using h2⟩
        rw [List.drop_succ_cons, List.take_succ_cons]
        conv => lhs; unfold textS
        rw [if_neg hc, h1, Option.map_map]
        rfl
/-- What stands at a place: block b from cell o on. -/
def At (w : World) (b o : Nat) (cs : List Value) : Prop := b < w.heap.size ∧ ∀ i u, cs[i]? = some u → w.cell? ⟨b, o + i, none⟩ = some u
theorem At.row {w : World} {b o : Nat} {cs : List Value} (h : At w b o cs) : Row w (some ⟨b, o, none⟩) cs := .inr ⟨b, o, rfl, h.1, h.2⟩
theorem At.below {w w' : World} {b o : Nat} {cs : List Value} (h : At w b o cs) (hb : Below w.heap.size w w') : At w' b o cs :=
  ⟨Nat.lt_of_lt_of_le h.1 hb.size, fun i u hu => (hb.cell (p := ⟨b, o + i, none⟩) h.1).trans (h.2 i u hu)⟩
theorem At.take {w : World} {b o : Nat} {cs : List Value} (h : At w b o cs) (k : Nat) : At w b o (cs.take k) := ⟨h.1, fun i u hu => h.2 i u (by
  rw [List.getElem?_take] at hu
  split at hu
  · exact hu
  · cases hu)⟩
def cutO (o c k : Nat) : Nat := if c = k then o else o + k
theorem cutA_some (b o c k : Nat) : cutA (some ⟨b, o, none⟩) c k = some ⟨b, cutO o c k, none⟩ := by unfold cutA cutO; split <;> simp [add_plain0]
theorem At.drop {w : World} {b o : Nat} {cs : List Value} (h : At w b o cs) (c k : Nat) (hc : cs.length ≤ c) : At w b (cutO o c k) (cs.drop k) := by
  refine ⟨h.1, fun i u hu => ?_⟩
  rw [List.getElem?_drop] at hu
  have hi := (List.getElem?_eq_some_iff.1 hu).1
  unfold cutO
  rw [if_neg (by omega), Nat.add_assoc]
  exact h.2 _ _ hu
theorem At.reads {w : World} {b o : Nat} {xs : List Int} (h : At w b o (nums8 xs)) (hm : xs.length ≤ 9223372036854775807) : ReadsInt w .u8 (some ⟨b, o, none⟩) xs.length xs :=
  ⟨rfl, hm, fun _ => ⟨_, rfl, fun i hi => by
    rw [add_plain0, List.getD_eq_getElem?_getD, List.getElem?_eq_getElem hi]
    exact h.2 i _ (nums8_get xs i hi)⟩⟩

set_option maxRecDepth 100000 in
set_option maxHeartbeats 400000 in
theorem indexByte_calls (w : World) (b o : Nat) (xs : List Int) (c : Nat) (hr : At w b o (nums8 xs)) (hx : Byt xs) :
    Calls Tryd.prog 62 #[.slice (some ⟨b, o, none⟩) xs.length c, .int .u8 0] w fun e w' => e = .returned (.int .i64 (idx0 xs)) ∧ w' = w := by
  have hrun : (callFunc 69 #[.slice (some ⟨b, o, none⟩) xs.length c, .int .u8 0]).run Tryd.prog w = .ok (.value (.int .i64 (idx0 xs))) w := by
    rw [run_callFunc_extern (P := Tryd.prog) (f := 69) (fn := Tryd.f69) (e := Extern.BytealgIndexByte.indexByte) (by rfl) (by kernel_rfl) (by kernel_rfl) (by kernel_rfl) (by kernel_rfl)]
    have h1 := Lib.run_indexByteSlice (P := Tryd.prog) w b o xs.length c xs rfl (fun i hi => by
      rw [List.getD_eq_getElem?_getD, List.getElem?_eq_getElem hi]
      exact hr.2 i _ (nums8_get xs i hi)) 0
    rw [h1]
    show Result.ok (Next.value (Value.int IntKind.i64 (Lib.indexByte (Lib.bytesOf xs) 0))) w = _
    rw [idx0_lib xs hx]
  go_enter Tryd.func62, Tryd.ntmps62
  go_wp2
  go_ret
  exact ⟨rfl, rfl⟩

theorem wp_scope_label {P : Program} {Q : Exit → Act → World → Prop} {a : Act} {w : World} {c rest : Code} (l : Nat) (J : Act → World → Prop) (μ : Act → World → Nat) (hf : findLabel c l = some (.seq .skip rest))
    (pass : ∀ a w, J a w → rest.wp P (Exit.jump l (fun a' w' => J a' w' ∧ μ a' w' < μ a w) Q) a w)
    (first : (∀ a w, J a w → rest.wp P (Exit.jump l J Q) a w) → c.wp P (Exit.jump l J Q) a w) : (Code.scope c).wp P Q a w :=
  wp_scope_jumps l J μ hf (first fun a w hJ => Code.wp_mono (fun e a' w' h => by
    cases e with
    | goto m => exact ⟨h.1, h.2.1⟩
    | _ => exact h) (pass a w hJ)) (fun a w hJ => wp_seq (wp_skip (pass a w hJ)))
/-- append(v, x...) of bytes: v of the call's own, x read. -/
theorem app_bytes {ops : Array Oper} {rest : List Oper} {o : Oper} {a : Act} {Q : Exit → Act → World → Prop} {W : World} (hgd : o.guard = none) (s x : Operand)
    (ho : o.op = .call { callee := .builtin .append, args := #[s, x], argTypes := #[24, 24] }) (base : Nat) (v : Value) (acc ys : List Int) (b o1 c m : Nat)
    (hs : a.eval s = v) (hx : a.eval x = .slice (some ⟨b, o1, none⟩) m c) (hm : m = ys.length) (own : W.ownsRow base 5 1 v acc.length (nums8 acc)) (at_ : At W b o1 (nums8 ys)) (hl : acc.length + ys.length ≤ 140737488355328) (hbase : base ≤ W.heap.size)
    (h : ∀ v1 w1, w1.ownsRow base 5 1 v1 (acc ++ ys).length (nums8 (acc ++ ys)) → Below base W w1 → W.grownBy w1 v.ownBlock → (v1.ownBlock = v.ownBlock ∨ ∃ b, v1.ownBlock = some b ∧ W.heap.size ≤ b) → wpList Tryd.prog ops Q rest (a.put o.dst v1) w1) :
    wpList Tryd.prog ops Q (o :: rest) a W := by
  subst hm
  exact print_append_row base hgd s x 24 5 .u8 1 ho Tryd.underlying24 info5 (by decide) v acc ys _ _ c hs hx own (at_.reads (by omega)) (Below.refl _ _) hbase (by omega) h
theorem at_new (W : World) (cs : List Value) (t : TypeId) : At (W.alloc (.cells cs.toArray t)) W.heap.size 0 cs := by
  refine ⟨by simp, fun i u hu => ?_⟩
  have h := heap_alloc_new W (.cells cs.toArray t)
  simp only [World.cell?, h, Nat.zero_add]
  simpa using hu
def lenOf' : Value → Nat | .slice _ n _ => n | _ => 0
def TextPost (w : World) (b : Nat) (xs : List Int) (e : Ending) (w' : World) : Prop :=
  Below w.heap.size w w' ∧ match textS xs with
    | none => e = .returned (.tuple #[.slice none 0 0, .slice none 0 0, .bool false])
    | some (t, r) => ∃ v o c, e = .returned (.tuple #[v, .slice (some ⟨b, o, none⟩) r.length c, .bool true]) ∧ w'.ownsRow w.heap.size 5 1 v t.length (nums8 t) ∧ At w' b o (nums8 r) ∧ r.length ≤ c
structure TextJ (w : World) (b : Nat) (xs : List Int) (w' : World) (ys acc : List Int) (o c : Nat) (v : Value) : Prop where
  at_ : At w' b o (nums8 ys)
  byt : Byt ys
  cap : ys.length ≤ c
  own : w'.ownsRow w.heap.size 5 1 v acc.length (nums8 acc)
  below : Below w.heap.size w w'
  blt : b < w.heap.size
  len : acc.length + ys.length ≤ xs.length
  eq : textS xs = (textS ys).map (fun x => (acc ++ x.1, x.2))
theorem own_base'' {w : World} {base : Nat} {e : TypeId} {size n : Nat} {v : Value} {xs : List Value} (h : w.ownsRow base e size v n xs) : ∀ k, v.ownBlock = some k → base ≤ k := own_base h
/-- What the first append leaves. -/
theorem TextJ.step {w : World} {b : Nat} {xs ys acc : List Int} {w1 w2 : World} {o c i : Nat} {v v1 : Value} (h : TextJ w b xs w1 ys acc o c v) (_hi : i < ys.length) (_hown : w2.ownsRow w.heap.size 5 1 v1 (acc ++ ys.take i).length (nums8 (acc ++ ys.take i))) (hg : w1.grownBy w2 v.ownBlock) :
    Below w.heap.size w w2 ∧ At w2 b (cutO o c (i + 1)) (nums8 (ys.drop (i + 1))) := by
  have hb : Below w.heap.size w w2 := h.below.grown hg h.below.size (own_base h.own)
  refine ⟨hb, ?_⟩
  have h1 := h.at_.drop c (i + 1) (by rw [nums8_length]; exact h.cap)
  have h2 : nums8 (ys.drop (i + 1)) = (nums8 ys).drop (i + 1) := by simp [nums8]
  rw [h2]
  refine ⟨Nat.lt_of_lt_of_le h.blt hb.size, fun j u hu => ?_⟩
  have h3 := h1.2 j u hu
  exact hg.cell h3 (fun he => by have := own_base h.own b he.symm; have := h.blt; omega)
set_option maxRecDepth 100000 in
set_option maxHeartbeats 1000000 in
theorem text_calls (w : World) (b o : Nat) (xs : List Int) (c : Nat) (hr : At w b o (nums8 xs)) (hx : Byt xs) (hcap : xs.length ≤ c) (hm : xs.length ≤ 140737488355327) :
    Calls Tryd.prog 54 #[.slice (some ⟨b, o, none⟩) xs.length c] w (TextPost w b xs) := by
  obtain ⟨i0, hi, hz0, hsz, hby⟩ := info_parts info5
  have J0 : TextJ w b xs w xs [] o c (.slice none 0 0) := ⟨hr, hx, hcap, ⟨rfl, .inl ⟨rfl, rfl⟩⟩, Below.refl _ _, hr.1, by simp, by cases textS xs <;> simp⟩
  have HI := Lib.hid (show xs.length ≤ 140737488355327 ∧ Tryd.prog.info? 5 = some i0 ∧ i0.zero = some (.int .u8 0) ∧ i0.size = 1 ∧ i0.bytes = 1 from ⟨hm, hi, hz0, hsz, hby⟩)
  clear hr hx hcap hi hz0 hsz hby hm
  go_enter Tryd.func54, Tryd.ntmps54
  go_wp2
  refine wp_scope_label 0 (fun a' w' => ∃ (ys acc : List Int) (o c : Nat) (v u6 u7 u8 u9 u10 u11 u12 u13 u14 u15 u16 u17 u18 u19 u20 u21 u22 u23 u24 u25 u26 u27 u28 u29 u30 u31 u32 u33 u34 u35 : Value), a' = { tmps := #[.slice (some ⟨b, o, none⟩) ys.length c, undef, .slice none 0 0, .slice none 0 0, .bool false, v, u6, u7, u8, u9, u10, u11, u12, u13, u14, u15, u16, u17, u18, u19, u20, u21, u22, u23, u24, u25, u26, u27, u28, u29, u30, u31, u32, u33, u34, u35], defers := [] } ∧ TextJ w b xs w' ys acc o c v) (fun a' _ => lenOf' (a'.tmps.getD 0 undef)) rfl ?_ ?_
  · rintro a w1 ⟨ys, acc, o1, c1, v, u6, u7, u8, u9, u10, u11, u12, u13, u14, u15, u16, u17, u18, u19, u20, u21, u22, u23, u24, u25, u26, u27, u28, u29, u30, u31, u32, u33, u34, u35, rfl, HJ⟩
    clear J0
    have HJ := Lib.hid HJ
    go_wp2_with fail
    refine (indexByte_calls w1 b o1 ys c1 HJ.out.at_ HJ.out.byt).mono ?_
    rintro e w2 ⟨rfl, rfl⟩
    rcases Int.lt_or_le (idx0 ys) 0 with hneg | hpos
    · have he : idx0 ys = -1 := by have := idx0_range ys; omega
      have hn := textS_none ys he
      have hE := HJ.out.eq
      rw [hn] at hE
      have HE := Lib.hid hE
      clear he hn hE
      go_wp2
      go_ret3
      exact ⟨HJ.out.below, by rw [HE.out]; rfl⟩
    · obtain ⟨i, hi⟩ := Int.eq_ofNat_of_zero_le hpos
      rw [hi]
      have hil : i < ys.length := by have := idx0_range ys; omega
      obtain ⟨hts, r, hr⟩ := textS_some ys i hi
      have hr' : ys.drop (i + 1) = r := by
        have := congrArg List.tail hr
        simpa [List.tail_drop] using this
      have HT := Lib.hid hts
      have HR := Lib.hid hr
      have HR' := Lib.hid hr'
      have hlr : ys.length - (i + 1) = r.length := by have := congrArg List.length hr'; simpa using this
      have HLR := Lib.hid hlr
      clear hi hpos hts hr hr' hlr
      have hys : ys.length ≤ 140737488355327 := by have := HJ.out.len; have := HI.out.1; omega
      have hc1 := cutTo 24 5 Tryd.underlying24 HI.out.2.1 (some ⟨b, o1, none⟩) ys.length c1 i i rfl (by omega) HJ.out.cap
      have hc2 := cutFrom 24 5 Tryd.underlying24 HI.out.2.1 HI.out.2.2.2.1 (some ⟨b, o1, none⟩) ys.length c1 (i + 1 : Int) (i + 1) (by omega) (by omega)
      rw [HLR.out, cutA_some] at hc2
      go_upto_region 6 with (((with_reducible refine gate_dst (N := 15) rfl ?_); go_loud (refine app_bytes rfl (.tmp 11) (.tmp 14) rfl w.heap.size v acc (ys.take i) b o1 c1 i rfl rfl (by rw [List.length_take]; omega) HJ.out.own (by rw [nums8_take]; exact HJ.out.at_.take i) (by have := HJ.out.len; have := HI.out.1; rw [List.length_take]; omega) HJ.out.below.size ?_); intro v1 w3 hown3 hb3 hg3 hat3; have HS := Lib.hid (HJ.out.step hil hown3 hg3); have HO3 := Lib.hid hown3; clear hown3 hb3 hg3 hat3))
      have hlr : (r.length : Int) = ys.length - (i + 1) := by have := HLR.out; omega
      have hlt : r.length < ys.length := by have := HLR.out; omega
      rcases r with _ | ⟨d, r⟩
      · have hz : ([] : List Int).length = 0 := rfl
        go_wp2
        go_ret3
        refine ⟨HS.out.1, ?_⟩
        rw [HJ.out.eq, HT.out, HR.out]
        refine ⟨v1, _, _, rfl, by simpa [textS] using HO3.out, ?_, by simp⟩
        have := HS.out.2
        rwa [HR'.out] at this
      · have hat : At w3 b (cutO o1 c1 (i + 1)) (nums8 (d :: r)) := by have := HS.out.2; rwa [HR'.out] at this
        have hcell := hat.2 0 _ (nums8_get (d :: r) 0 (by simp))
        have HAT := Lib.hid hat
        clear hat
        simp only [List.getElem_cons_zero, Nat.add_zero] at hcell
        have hpos : 0 < (d :: r).length := by simp
        by_cases hd : d = 255
        · subst hd
          have hc3 := cutFrom 24 5 Tryd.underlying24 HI.out.2.1 HI.out.2.2.2.1 (some ⟨b, cutO o1 c1 (i + 1), none⟩) (r.length + 1) (c1 - (i + 1)) 1 1 rfl (by omega)
          rw [cutA_some, Nat.add_sub_cancel] at hc3
          go_wp2_with (((with_reducible refine gate_dst (N := 31) rfl ?_); go_loud (refine app_bytes rfl (.tmp 29) (.tmp 30) rfl w.heap.size v1 (acc ++ ys.take i) [0] w3.heap.size 0 1 1 rfl rfl rfl (HO3.out.alloc _) (at_new w3 [.int .u8 0] _) (by have := HJ.out.len; have := HI.out.1; rw [List.length_append, List.length_take]; simp; omega) (by have := HS.out.1.size; simp; omega) ?_); intro v2 w4 hown4 hb4 hg4 hat4; have HO4 := Lib.hid hown4; have HG4 := Lib.hid hg4; clear hown4 hb4 hg4 hat4))
          go_step3
          have HN : TextJ w b xs w4 r (acc ++ ys.take i ++ [0]) (cutO (cutO o1 c1 (i + 1)) (c1 - (i + 1)) 1) (c1 - (i + 1) - 1) v2 := by
            have hb4 : Below w.heap.size w w4 := (HS.out.1.alloc HS.out.1.size _).grown HG4.out (by have := HS.out.1.size; simp; omega) (own_base HO3.out)
            have hcc : ((255 : Int) :: r).length ≤ c1 - (i + 1) := by have := HJ.out.cap; have := HLR.out; simp at this ⊢; omega
            have h5 := HAT.out.drop (c1 - (i + 1)) 1 (by rw [nums8_length]; exact hcc)
            refine ⟨⟨Nat.lt_of_lt_of_le HJ.out.blt hb4.size, fun j u hu => ?_⟩, ?_, ?_, HO4.out, hb4, HJ.out.blt, ?_, ?_⟩
            · have h6 := h5.2 j u (by simpa [nums8] using hu)
              have h7 : (w3.alloc (.cells #[.int .u8 0] 5)).cell? ⟨b, cutO (cutO o1 c1 (i + 1)) (c1 - (i + 1)) 1 + j, none⟩ = some u := by
                refine (Below.cell (B := w3.heap.size) ((Below.refl _ w3).alloc (Nat.le_refl _) _) (p := ⟨b, _, none⟩) ?_).trans h6
                exact HAT.out.1
              exact HG4.out.cell h7 (fun he => by have := own_base HO3.out b he.symm; have := HJ.out.blt; omega)
            · have := HJ.out.byt.drop (i + 1)
              rw [HR'.out] at this
              exact this.cons.2
            · simp at hcc; omega
            · have := HJ.out.len; have := HLR.out; simp at this ⊢; omega
            · rw [HJ.out.eq, HT.out, HR.out]
              show Option.map _ (Option.map _ (textS (0 :: 255 :: r))) = _
              rw [show textS (0 :: 255 :: r) = (textS r).map (fun x => (0 :: x.1, x.2)) by simp [textS]]
              cases textS r <;> simp
          refine ⟨rfl, ⟨r, _, _, _, _, _, _, _, _, _, _, _, _, _, _, _, _, _, _, _, _, _, _, _, _, _, _, _, _, _, _, _, _, _, _, rfl, HN⟩, ?_⟩
          have := HLR.out
          simp [lenOf'] at this ⊢
          omega
        · have hdb : (d == 255) = false := by simpa using hd
          go_wp2
          go_ret3
          refine ⟨HS.out.1, ?_⟩
          rw [HJ.out.eq, HT.out, HR.out, show textS (0 :: d :: r) = some ([], d :: r) by simp [textS, hd]]
          simp only [Option.map_some]
          refine ⟨v1, _, _, rfl, ?_, HAT.out, ?_⟩
          · have := HO3.out
            simpa using this
          · have := HJ.out.cap; have := HLR.out; simp at this ⊢; omega
  · intro HP
    go_wp2
    go_step3
    go_step
    go_step
    exact HP _ _ ⟨xs, [], o, c, .slice none 0 0, _, _, _, _, _, _, _, _, _, _, _, _, _, _, _, _, _, _, _, _, _, _, _, _, _, _, _, _, _, _, rfl, J0⟩
end Go.Proofs.YtplfmpcoojkjlaaDoor
