/- The document's reading: next, number, real. -/
import Derived.Test.YtplfmpcoojkjlaaK3
namespace Go.Proofs.Ytplfmpcoojkjlaa
open Go.RowKit Go.Proofs.YtplfmpcoojkjlaaW.PrintWords
/-- All is as it was, but block g, and what is new. -/
structure But (w w' : World) (g : Nat) : Prop where
  os : w'.os = w.os
  tape : w'.tape = w.tape
  output : w'.output = w.output
  size : w.heap.size ≤ w'.heap.size
  block : ∀ k, k < w.heap.size → k ≠ g → w'.heap[k]? = w.heap[k]?
theorem But.refl (w : World) (g : Nat) : But w w g := ⟨rfl, rfl, rfl, Nat.le_refl _, fun _ _ _ => rfl⟩
theorem But.trans {a b c : World} {g : Nat} (h : But a b g) (k : But b c g) : But a c g :=
  ⟨k.os.trans h.os, k.tape.trans h.tape, k.output.trans h.output, Nat.le_trans h.size k.size, fun i hi hg => (k.block i (Nat.lt_of_lt_of_le hi h.size) hg).trans (h.block i hi hg)⟩
theorem But.of_below {w w' : World} (h : Below w.heap.size w w') (g : Nat) : But w w' g := ⟨h.os, h.tape, h.output, h.size, fun k hk _ => h.block k hk⟩
theorem But.drew {a w : World} {g : Nat} (h : But a w g) : But a w.drew g := ⟨h.os, h.tape, h.output, h.size, h.block⟩
theorem But.alloc {a w : World} {g : Nat} (h : But a w g) (O : Obj) : But a (w.alloc O) g := h.trans (.of_below ((Below.refl _ _).alloc (Nat.le_refl _) O) g)
theorem But.setCell {a w : World} {g : Nat} (h : But a w g) (j : Nat) (u : Value) : But a (w.setCell ⟨g, j, none⟩ u) g :=
  h.trans ⟨rfl, rfl, rfl, by simp [World.setCell], fun k _ hg => Below.heap_setCell w _ u k hg⟩
theorem But.toBelow {w w' : World} {g B : Nat} (h : But w w' g) (hB : B ≤ w.heap.size) (hg : B ≤ g) : Below B w w' := ⟨h.os, h.tape, h.output, h.size, fun k hk => h.block k (by omega) (by omega)⟩
theorem At.but {w w' : World} {g b o : Nat} {cs : List Value} (h : At w b o cs) (hb : But w w' g) (hne : b ≠ g) : At w' b o cs :=
  ⟨Nat.lt_of_lt_of_le h.1 hb.size, fun i u hu => (World.cell?_of_block (w := w) (hb.block b h.1 hne)).trans (h.2 i u hu)⟩
/-- The reading's block: the bytes, the place, the fault. -/
def RSt (w : World) (g : Nat) (A : Option Addr) (n c : Nat) (p : Nat) (fault : Int) : Prop := w.heap[g]? = some (.cells #[.slice A n c, .int .i64 p, .int .i64 fault] 44 (0, 0))
def NextR (xs : List Int) (p : Nat) (fault : Int) (v : Int) (p' : Nat) (fault' : Int) : Prop :=
  (fault ≠ 0 ∧ v = 0 ∧ p' = p ∧ fault' = fault) ∨ (fault = 0 ∧ xs.length ≤ p ∧ v = 0 ∧ p' = p ∧ fault' = 40) ∨ (fault = 0 ∧ p' = p + 1 ∧ fault' = 0 ∧ ∃ h : p < xs.length, v = xs[p])
def NextPost (w : World) (g : Nat) (A : Option Addr) (xs : List Int) (c p : Nat) (fault : Int) (e : Ending) (w' : World) : Prop :=
  ∃ (v : Int) (p' : Nat) (fault' : Int), e = .returned (.int .u8 v) ∧ 0 ≤ v ∧ v < 256 ∧ RSt w' g A xs.length c p' fault' ∧ But w w' g ∧ NextR xs p fault v p' fault'
theorem RSt.drew {w : World} {g : Nat} {A : Option Addr} {n c p : Nat} {f : Int} (h : RSt w g A n c p f) : RSt w.drew g A n c p f := h
theorem RSt.at {w : World} {g : Nat} {A : Option Addr} {n c p : Nat} {f : Int} (h : RSt w g A n c p f) (q : Nat) : RSt (w.setCell ⟨g, 1, none⟩ (.int .i64 q)) g A n c q f := blk_set h 1 _
theorem RSt.flt {w : World} {g : Nat} {A : Option Addr} {n c p : Nat} {f : Int} (h : RSt w g A n c p f) (q : Int) : RSt (w.setCell ⟨g, 2, none⟩ (.int .i64 q)) g A n c p q := blk_set h 2 _
set_option maxRecDepth 100000 in
set_option maxHeartbeats 1000000 in
theorem next_fault (w : World) (g : Nat) (A : Option Addr) (xs : List Int) (c p : Nat) (fault : Int) (hs : RSt w g A xs.length c p fault) (hf : fault ≠ 0) :
    Calls Try.prog 25 #[.pointer (some ⟨g, 0, none⟩)] w (NextPost w g A xs c p fault) := by
  have hc0 : w.cell? ⟨g, 0, none⟩ = _ := (blk_cell hs 0).trans rfl
  have hc1 : w.cell? ⟨g, 1, none⟩ = _ := (blk_cell hs 1).trans rfl
  have hc2 : w.cell? ⟨g, 2, none⟩ = _ := (blk_cell hs 2).trans rfl
  have hfb : (fault != 0) = true := by simpa using hf
  have HS := Lib.hid hs
  have HF := Lib.hid hf
  clear hs hf
  go_enter Try.func25, Try.ntmps25
  go_wp2
  go_ret
  exact ⟨0, p, fault, rfl, by decide, by decide, HS.out, But.refl _ _, .inl ⟨HF.out, rfl, rfl, rfl⟩⟩
set_option maxRecDepth 100000 in
set_option maxHeartbeats 1000000 in
theorem next_end (w : World) (g : Nat) (A : Option Addr) (xs : List Int) (c p : Nat) (hs : RSt w g A xs.length c p 0) (hp : xs.length ≤ p) :
    Calls Try.prog 25 #[.pointer (some ⟨g, 0, none⟩)] w (NextPost w g A xs c p 0) := by
  have hc0 : w.cell? ⟨g, 0, none⟩ = _ := (blk_cell hs 0).trans rfl
  have hc1 : w.cell? ⟨g, 1, none⟩ = _ := (blk_cell hs 1).trans rfl
  have hc2 : w.cell? ⟨g, 2, none⟩ = _ := (blk_cell hs 2).trans rfl
  have hfz := fun j => blk_frozen hs j
  have HS := Lib.hid hs
  clear hs
  go_enter Try.func25, Try.ntmps25
  go_wp2
  go_region
  go_wp2
  go_ret
  exact ⟨0, p, 40, rfl, by decide, by decide, (HS.out.flt 40).drew, ((But.refl _ _).setCell 2 _).drew, .inr (.inl ⟨rfl, hp, rfl, rfl, rfl⟩)⟩
set_option maxRecDepth 100000 in
set_option maxHeartbeats 1000000 in
theorem next_ok (w : World) (g : Nat) (A : Option Addr) (xs : List Int) (c p : Nat) (hs : RSt w g A xs.length c p 0) (hr : Row w A (nums8 xs)) (hx : Byt xs) (hm : xs.length ≤ 140737488355327) (hg : nums8 xs ≠ [] → ∀ b o, A = some ⟨b, o, none⟩ → b ≠ g) (hp : p < xs.length) :
    Calls Try.prog 25 #[.pointer (some ⟨g, 0, none⟩)] w (NextPost w g A xs c p 0) := by
  have hc0 : w.cell? ⟨g, 0, none⟩ = _ := (blk_cell hs 0).trans rfl
  have hc1 : w.cell? ⟨g, 1, none⟩ = _ := (blk_cell hs 1).trans rfl
  have hc2 : w.cell? ⟨g, 2, none⟩ = _ := (blk_cell hs 2).trans rfl
  have hfz := fun j => blk_frozen hs j
  have HS := Lib.hid hs
  obtain ⟨b, o, rfl, hlt, hcs⟩ := hr.get (by intro h; have h2 := congrArg List.length h; rw [nums8_length] at h2; have h3 : xs.length = 0 := h2; omega)
  have hbg := hg (by intro h; have h2 := congrArg List.length h; rw [nums8_length] at h2; have h3 : xs.length = 0 := h2; omega) b o rfl
  have hcell : w.cell? ⟨b, o + p, none⟩ = some (.int .u8 xs[p]) := hcs p _ (nums8_get xs p hp)
  have HX := Lib.hid (hx.at p hp)
  clear hs hcs hg hr hx
  go_enter Try.func25, Try.ntmps25
  go_wp2
  go_region
  go_wp2
  go_region
  go_wp2
  go_ret
  have hpp : (p : Int) + 1 = ((p + 1 : Nat) : Int) := rfl
  exact ⟨xs[p], p + 1, 0, rfl, HX.out.1, HX.out.2, (HS.out.at (p + 1)).drew.drew, ((But.refl _ _).setCell 1 _).drew.drew, .inr (.inr ⟨rfl, rfl, rfl, hp, rfl⟩)⟩
theorem next_any (w : World) (g : Nat) (A : Option Addr) (xs : List Int) (c p : Nat) (fault : Int) (hs : RSt w g A xs.length c p fault) (hr : Row w A (nums8 xs)) (hx : Byt xs) (hm : xs.length ≤ 140737488355327) (hg : nums8 xs ≠ [] → ∀ b o, A = some ⟨b, o, none⟩ → b ≠ g) :
    Calls Try.prog 25 #[.pointer (some ⟨g, 0, none⟩)] w (NextPost w g A xs c p fault) := by
  by_cases hf : fault = 0
  · subst hf
    by_cases hp : p < xs.length
    · exact next_ok w g A xs c p hs hr hx hm hg hp
    · exact next_end w g A xs c p hs (by omega)
  · exact next_fault w g A xs c p fault hs hf
theorem Row.but {w w' : World} {g : Nat} {A : Option Addr} {cs : List Value} (h : Row w A cs) (hb : But w w' g) (hne : cs ≠ [] → ∀ b o, A = some ⟨b, o, none⟩ → b ≠ g) : Row w' A cs := by
  by_cases hn : cs = []
  · exact .inl hn
  · obtain ⟨b, o, rfl, hlt, hc⟩ := h.get hn
    exact .inr ⟨b, o, rfl, Nat.lt_of_lt_of_le hlt hb.size, fun i u hu => (World.cell?_of_block (w := w) (hb.block b hlt (hne hn b o rfl))).trans (hc i u hu)⟩
/-- What eight bytes from p on come to. -/
def NumR (xs : List Int) (p : Nat) (fault : Int) (v : Int) (p' : Nat) (fault' : Int) : Prop :=
  (fault' = 0 → fault = 0 ∧ p + 8 ≤ xs.length ∧ p' = p + 8 ∧ v = (be8 ((xs.drop p).take 8) : Int)) ∧ (fault ≠ 0 → fault' = fault) ∧ (fault = 0 → xs.length < p + 8 → fault' = 40) ∧ (fault = 0 → p + 8 ≤ xs.length → fault' = 0) ∧ p' ≤ xs.length ∧ p ≤ p'
def NumPost (w : World) (g : Nat) (A : Option Addr) (xs : List Int) (c p : Nat) (fault : Int) (e : Ending) (w' : World) : Prop :=
  ∃ (v : Int) (p' : Nat) (fault' : Int), e = .returned (.int .u64 v) ∧ 0 ≤ v ∧ v < 18446744073709551616 ∧ RSt w' g A xs.length c p' fault' ∧ But w w' g ∧ NumR xs p fault v p' fault'
/-- After k bytes. -/
structure NumJ (w : World) (g : Nat) (A : Option Addr) (xs : List Int) (c p : Nat) (fault : Int) (wr : World) (k : Nat) (v : Int) (p' : Nat) (fault' : Int) : Prop where
  st : RSt wr g A xs.length c p' fault'
  but : But w wr g
  lo : 0 ≤ v
  hi : v < 18446744073709551616
  le : p' ≤ xs.length
  ge : p ≤ p'
  ok : fault' = 0 → fault = 0 ∧ p + k ≤ xs.length ∧ p' = p + k ∧ v = (be8 ((xs.drop p).take k) : Int)
  bad : fault ≠ 0 → fault' = fault
  short : fault = 0 → fault' ≠ 0 → fault' = 40 ∧ xs.length < p + k
set_option maxRecDepth 100000 in
set_option maxHeartbeats 1000000 in
theorem rnumber_any (w : World) (g : Nat) (A : Option Addr) (xs : List Int) (c p : Nat) (fault : Int) (hs : RSt w g A xs.length c p fault) (hr : Row w A (nums8 xs)) (hx : Byt xs) (hm : xs.length ≤ 140737488355327) (hg : nums8 xs ≠ [] → ∀ b o, A = some ⟨b, o, none⟩ → b ≠ g) (hp : p ≤ xs.length) :
    Calls Try.prog 26 #[.pointer (some ⟨g, 0, none⟩)] w (NumPost w g A xs c p fault) := by
  have J0 : NumJ w g A xs c p fault w 0 0 p fault := ⟨hs, But.refl _ _, by omega, by omega, hp, Nat.le_refl _, fun h => ⟨h, by omega, rfl, by simp [be8]⟩, fun _ => rfl, fun h h' => absurd h h'⟩
  have HR := Lib.hid hr
  have HX := Lib.hid hx
  have HG := Lib.hid hg
  clear hs hr hx hg
  go_enter Try.func26, Try.ntmps26
  go_wp2
  go_loopw [3, 4] (fun vn vi wr => ∃ (k : Nat) (v : Int) (p' : Nat) (fault' : Int), k ≤ 8 ∧ vi = .int .i64 k ∧ vn = .int .u64 v ∧ NumJ w g A xs c p fault wr k v p' fault') (fun _ vi _ => 8 - (intOf vi).toNat)
  case atStart => exact ⟨0, 0, p, fault, by omega, rfl, rfl, J0⟩
  case round =>
    clear J0
    obtain ⟨k, v, p', fault', hk, rfl, rfl, HJ⟩ := hrel
    have HJ := Lib.hid HJ
    by_cases hlt : k < 8
    · go_wp2_with fail
      refine (next_any wr g A xs c p' fault' HJ.out.st (HR.out.but HJ.out.but HG.out) HX.out hm HG.out).mono ?_
      rintro e w2 ⟨u, p2, f2, rfl, hu0, hu1, hst, hbut, hnr⟩
      have HN := Lib.hid (show _ ∧ _ ∧ _ from ⟨hst, hbut, hnr⟩)
      clear hst hbut hnr
      go_wp2
      go_roundw
      case rel =>
        obtain ⟨hst, hbut, hnr⟩ := HN.out
        have hb := HJ.out.but.trans hbut
        have hwr : ∀ z : Int, 0 ≤ IntKind.u64.wrap z ∧ IntKind.u64.wrap z < 18446744073709551616 := fun z => by rw [IntKind.wrap_u64]; omega
        have hw := hwr (IntKind.u64.wrap (256 * v) + u)
        refine ⟨k + 1, _, p2, f2, by omega, by go_num, rfl, hst, hb, hw.1, hw.2, ?_, ?_, ?_, ?_, ?_⟩
        · rcases hnr with ⟨_, _, h, _⟩ | ⟨_, _, _, h, _⟩ | ⟨_, h, _, h', _⟩
          · have := HJ.out.le; omega
          · have := HJ.out.le; omega
          · omega
        · rcases hnr with ⟨_, _, h, _⟩ | ⟨_, _, _, h, _⟩ | ⟨_, h, _, h', _⟩ <;> (have := HJ.out.ge; omega)
        · intro h2
          rcases hnr with ⟨h, _, _, h'⟩ | ⟨_, _, _, _, h'⟩ | ⟨h, h', _, hlt2, hv⟩
          · omega
          · omega
          · obtain ⟨a1, a2, a3, a4⟩ := HJ.out.ok h
            subst a3
            refine ⟨a1, by omega, by omega, ?_⟩
            have hd : k < (xs.drop p).length := by rw [List.length_drop]; omega
            have h7 : ((xs.drop p).take k).length = k := by rw [List.length_take]; omega
            have hbb := be8_lt ((xs.drop p).take k) ((HX.out.drop p).take k)
            rw [h7] at hbb
            have h8 : 256 ^ k ≤ 256 ^ 7 := Nat.pow_le_pow_right (by decide) (by omega)
            rw [show (256 : Nat) ^ 7 = 72057594037927936 by decide] at h8
            rw [take_snoc hd, be8_snoc, List.getElem_drop, ← hv, a4, IntKind.wrap_u64, IntKind.wrap_u64]
            omega
        · intro h
          have := HJ.out.bad h
          rcases hnr with ⟨_, _, _, h'⟩ | ⟨h', _⟩ | ⟨h', _⟩
          · omega
          · omega
          · omega
        · intro h h2
          rcases hnr with ⟨h3, _, _, h'⟩ | ⟨h3, h4, _, _, h'⟩ | ⟨h3, _, h', _⟩
          · have := HJ.out.short h h3; omega
          · obtain ⟨a1, a2, a3, a4⟩ := HJ.out.ok h3; omega
          · omega
      case measure => simp [intOf]; omega
    · have h8 : k = 8 := by omega
      subst h8
      go_wp2
      go_ret
      refine ⟨v, p', fault', rfl, HJ.out.lo, HJ.out.hi, HJ.out.st, HJ.out.but, HJ.out.ok, HJ.out.bad, ?_, ?_, HJ.out.le, HJ.out.ge⟩
      · intro h h2
        by_cases h3 : fault' = 0
        · have := HJ.out.ok h3; omega
        · exact (HJ.out.short h h3).1
      · intro h h2
        by_cases h3 : fault' = 0
        · exact h3
        · have := HJ.out.short h h3; omega
theorem tmod_top (n : Nat) : (n : Int).tmod 9223372036854775808 = ((n % 9223372036854775808 : Nat) : Int) := by
  rw [Int.tmod_eq_emod_of_nonneg (by omega)]; rfl
set_option maxRecDepth 100000 in
set_option maxHeartbeats 1000000 in
theorem clean_calls (w : World) (n : Nat) (hn : n < 18446744073709551616) :
    Calls Try.prog 38 #[.int .u64 n] w fun e w' => e = .returned (.int .u64 (cleanB n)) ∧ w' = w := by
  have hmod : (0 : Int) ≤ n := by omega
  by_cases h : n % 9223372036854775808 > 9218868437227405312
  · have hc : cleanB n = 9221120237041090560 := by unfold cleanB top63 infB nanB; rw [if_pos h]
    have HC := Lib.hid hc
    clear hc
    go_enter Try.func38, Try.ntmps38
    go_wp2
    go_ret
    exact ⟨by rw [HC.out]; rfl, rfl⟩
  · have hc : cleanB n = n := by unfold cleanB top63 infB nanB; rw [if_neg h]
    have HC := Lib.hid hc
    clear hc
    go_enter Try.func38, Try.ntmps38
    go_wp2
    go_ret
    exact ⟨by rw [HC.out]; rfl, rfl⟩
theorem clean_int (w : World) (z : Int) (h0 : 0 ≤ z) (h1 : z < 18446744073709551616) :
    Calls Try.prog 38 #[.int .u64 z] w fun e w' => e = .returned (.int .u64 (cleanB z.toNat)) ∧ w' = w := by
  obtain ⟨n, rfl⟩ := Int.eq_ofNat_of_zero_le h0
  simpa using clean_calls w n (by omega)
def RealR (xs : List Int) (p : Nat) (fault : Int) (u : Nat) (p' : Nat) (fault' : Int) : Prop :=
  (fault' = 0 → fault = 0 ∧ p + 8 ≤ xs.length ∧ p' = p + 8 ∧ u = unrankB (be8 ((xs.drop p).take 8)) ∧ cleanB u = u) ∧ (fault ≠ 0 → fault' = fault) ∧ (fault = 0 → fault' = 0 ∨ fault' = 40) ∧ (fault = 0 → p + 8 ≤ xs.length → cleanB (unrankB (be8 ((xs.drop p).take 8))) = unrankB (be8 ((xs.drop p).take 8)) → fault' = 0) ∧ p' ≤ xs.length ∧ p ≤ p'
def RealPost (w : World) (g : Nat) (A : Option Addr) (xs : List Int) (c p : Nat) (fault : Int) (e : Ending) (w' : World) : Prop :=
  ∃ (u : Nat) (p' : Nat) (fault' : Int), e = .returned (.int .u64 u) ∧ u < 18446744073709551616 ∧ RSt w' g A xs.length c p' fault' ∧ But w w' g ∧ RealR xs p fault u p' fault'
theorem RealR.of {xs : List Int} {p p1 : Nat} {fault f1 : Int} {v : Nat} (h : NumR xs p fault v p1 f1) : (f1 = 0 → cleanB (unrankB v) = unrankB v → RealR xs p fault (unrankB v) p1 0) ∧ (f1 = 0 → ¬ cleanB (unrankB v) = unrankB v → RealR xs p fault (unrankB v) p1 40) ∧ (f1 ≠ 0 → RealR xs p fault (unrankB v) p1 f1) := by
  obtain ⟨a, b, c, d, e⟩ := h
  refine ⟨fun h hc => ?_, fun h hc => ?_, fun h => ?_⟩
  · obtain ⟨h1, h2, h3, h4⟩ := a h
    have h5 : v = be8 ((xs.drop p).take 8) := by omega
    refine ⟨fun _ => ⟨h1, h2, h3, by rw [h5], hc⟩, fun h6 => absurd h1 h6, fun _ => .inl rfl, fun _ _ _ => rfl, e⟩
  · obtain ⟨h1, h2, h3, h4⟩ := a h
    have h5 : v = be8 ((xs.drop p).take 8) := by omega
    refine ⟨fun h6 => by omega, fun h6 => absurd h1 h6, fun _ => .inr rfl, fun _ _ h6 => ?_, e⟩
    rw [h5] at hc
    exact absurd h6 hc
  · refine ⟨fun h6 => absurd h6 h, b, fun h6 => ?_, fun h6 h7 _ => d h6 h7, e⟩
    by_cases h7 : p + 8 ≤ xs.length
    · exact .inl (d h6 h7)
    · exact .inr (c h6 (by omega))
set_option maxRecDepth 100000 in
set_option maxHeartbeats 1000000 in
theorem rreal_any (w : World) (g : Nat) (A : Option Addr) (xs : List Int) (c p : Nat) (fault : Int) (hs : RSt w g A xs.length c p fault) (hr : Row w A (nums8 xs)) (hx : Byt xs) (hm : xs.length ≤ 140737488355327) (hg : nums8 xs ≠ [] → ∀ b o, A = some ⟨b, o, none⟩ → b ≠ g) (hp : p ≤ xs.length) :
    Calls Try.prog 27 #[.pointer (some ⟨g, 0, none⟩)] w (RealPost w g A xs c p fault) := by
  have HN := Lib.hid (rnumber_any w g A xs c p fault hs hr hx hm hg hp)
  clear hs hr hx hg
  go_enter Try.func27, Try.ntmps27
  go_wp2_with fail
  refine HN.out.mono ?_
  rintro e w1 ⟨v, p1, f1, rfl, hv0, hv1, hst, hbut, hnr⟩
  obtain ⟨v, rfl⟩ := Int.eq_ofNat_of_zero_le hv0
  have hc2 : w1.cell? ⟨g, 2, none⟩ = _ := (blk_cell hst 2).trans rfl
  have hc1 : w1.cell? ⟨g, 1, none⟩ = _ := (blk_cell hst 1).trans rfl
  have hc0 : w1.cell? ⟨g, 0, none⟩ = _ := (blk_cell hst 0).trans rfl
  have hfz := fun j => blk_frozen hst j
  have HS := Lib.hid (show _ ∧ _ ∧ _ from ⟨hst, hbut, RealR.of hnr⟩)
  have HU := Lib.hid (unrankB_lt v (by omega))
  clear hst hbut hnr
  have hsub : v < 9223372036854775808 → IntKind.u64.wrap (18446744073709551615 - (v : Int)) = ((unrankB v : Nat) : Int) := fun hlo => by
    unfold unrankB top63; rw [if_neg (by omega), IntKind.wrap_u64]; omega
  have hsub2 : ¬ v < 9223372036854775808 → IntKind.u64.wrap ((v : Int) - 9223372036854775808) = ((unrankB v : Nat) : Int) := fun hlo => by
    unfold unrankB top63; rw [if_pos (by omega), IntKind.wrap_u64]; omega
  clear hv0 hv1
  by_cases hlo : v < 9223372036854775808
  · have hu := hsub hlo
    have hb : decide ((9223372036854775808 : Int) ≤ (v : Int)) = false := by simp; omega
    clear hsub hsub2 hlo
    generalize hun : unrankB v = u at *
    clear hun
    by_cases hf : f1 = 0
    · subst hf
      by_cases hcl : cleanB u = u
      · have HC := Lib.hid hcl
        have hne : ((u : Int) != (cleanB u : Int)) = false := by rw [hcl]; simp
        clear hcl
        go_wp2_with fail
        refine (clean_calls _ _ HU.out).mono ?_
        rintro e w2 ⟨rfl, rfl⟩
        go_wp2
        go_ret
        exact ⟨_, p1, 0, rfl, HU.out, HS.out.1, HS.out.2.1, HS.out.2.2.1 trivial HC.out⟩
      · have HC := Lib.hid hcl
        have hne : ((u : Int) != (cleanB u : Int)) = true := by simp; omega
        clear hcl
        go_wp2_with fail
        refine (clean_calls _ _ HU.out).mono ?_
        rintro e w2 ⟨rfl, rfl⟩
        go_wp2
        go_ret
        exact ⟨_, p1, 40, rfl, HU.out, HS.out.1.flt 40, HS.out.2.1.setCell 2 _, HS.out.2.2.2.1 trivial HC.out⟩
    · have hfb : (f1 == 0) = false := by simpa using hf
      have HF := Lib.hid hf
      clear hf
      go_wp2
      go_ret
      exact ⟨_, p1, f1, rfl, HU.out, HS.out.1, HS.out.2.1, HS.out.2.2.2.2 HF.out⟩
  · have hu := hsub2 hlo
    have hb : decide ((9223372036854775808 : Int) ≤ (v : Int)) = true := by simp; omega
    clear hsub hsub2 hlo
    generalize hun : unrankB v = u at *
    clear hun
    by_cases hf : f1 = 0
    · subst hf
      by_cases hcl : cleanB u = u
      · have HC := Lib.hid hcl
        have hne : ((u : Int) != (cleanB u : Int)) = false := by rw [hcl]; simp
        clear hcl
        go_wp2_with fail
        refine (clean_calls _ _ HU.out).mono ?_
        rintro e w2 ⟨rfl, rfl⟩
        go_wp2
        go_ret
        exact ⟨_, p1, 0, rfl, HU.out, HS.out.1, HS.out.2.1, HS.out.2.2.1 trivial HC.out⟩
      · have HC := Lib.hid hcl
        have hne : ((u : Int) != (cleanB u : Int)) = true := by simp; omega
        clear hcl
        go_wp2_with fail
        refine (clean_calls _ _ HU.out).mono ?_
        rintro e w2 ⟨rfl, rfl⟩
        go_wp2
        go_ret
        exact ⟨_, p1, 40, rfl, HU.out, HS.out.1.flt 40, HS.out.2.1.setCell 2 _, HS.out.2.2.2.1 trivial HC.out⟩
    · have hfb : (f1 == 0) = false := by simpa using hf
      have HF := Lib.hid hf
      clear hf
      go_wp2
      go_ret
      exact ⟨_, p1, f1, rfl, HU.out, HS.out.1, HS.out.2.1, HS.out.2.2.2.2 HF.out⟩
end Go.Proofs.Ytplfmpcoojkjlaa
