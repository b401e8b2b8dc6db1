/- A log is made. -/
import Derived.Test.YtokflmiijdpchaaGreatD18
import Derived.Defers
import Derived.Recover
namespace Go.Proofs.YtokflmiijdpchaaGreat
open Go.RowKit
theorem Dsk.grown {w w' : World} {d N sb k b : Nat} {rv : Value} (h : Dsk w d N sb rv k) (hg : w.grownBy w' (some b)) (hb : ¬ DF d sb rv b) : Dsk w' d N sb rv k := by
  have h0 := h
  obtain ⟨⟨lf, c0, c1, h1⟩, ⟨c, h2, h3⟩, ⟨base, xs, h4, h5⟩, h6, h7⟩ := h
  exact ⟨⟨lf, c0, c1, (hg.block d (h0.own_lt (.inl rfl)) fun e => hb (.inl (Option.some.inj e).symm)).trans h1⟩, ⟨c, (hg.block sb h0.lt fun e => hb (.inr (.inl (Option.some.inj e).symm))).trans h2, h3⟩, ⟨base, xs, h4.kept hg (.inr fun e => hb (.inr (.inr e))), h5⟩, h6, h7⟩
theorem DU.grown {w w' : World} {d N sb k b : Nat} {U : Nat → Prop} (h : DU w d N sb k U) (hg : w.grownBy w' (some b)) (hb : U b) : DU w' d N sb k U := let ⟨rv, h1, h2⟩ := h; ⟨rv, h1.grown hg (h2 b hb).2, fun q hq => ⟨Nat.lt_of_lt_of_le (h2 q hq).1 hg.size, (h2 q hq).2⟩⟩
theorem wcaught_nil (w : World) (a : Option Addr) : Calls Tryz.prog 115 #[.nilIface, .pointer a] w fun e w' => e = .returned (.tuple #[]) ∧ w' = w := by
  go_enter Tryz.func115, Tryz.ntmps115
  go_wp2
  first | go_end0 | refine bodyPost_ret (results_none rfl _ _ _) rfl ?_
  exact ⟨rfl, rfl⟩
theorem make1_idle (w : World) (a : Option Addr) : CallsD Tryz.prog 131 #[.pointer a] .returning w fun e u' w' => e = .returned (.tuple #[]) ∧ u' = .returning ∧ w' = w := by
  refine callsD_of_wpS Tryz.func131 rfl fun c₀ cs hu => ?_
  apply wpS_region
  simp [wpOpsS, go_sem, recoverD, hu, Tryz.ntmps131]
  refine (wcaught_nil w a).mono ?_
  rintro e w' ⟨rfl, rfl⟩
  cases c₀
  simp_all [bodyPostS, results, Tryz.results131]
set_option maxRecDepth 100000 in
set_option maxHeartbeats 4000000 in
theorem wmake_calls (w : World) (d N sb k : Nat) (U : Nat → Prop) (hd : DU w d N sb k U) (fr n : Nat) (gen : Int) (hn : 2 ≤ n) (hk : k + 1 < 1048576) (hfn : fr + n < N) (hg0 : 1 ≤ gen) (hg1 : gen ≤ 1099511627776) :
    Calls Tryz.prog 77 #[.pointer (some ⟨d, 0, none⟩), .int .i64 fr, .int .i64 n, .int .i64 gen] w fun e w' => ∃ l, e = .returned (.tuple #[.pointer (some ⟨l, 0, none⟩), .int .i64 0]) ∧ DU w' d N sb 0 U ∧ Kp U w w' := by
  have hmf : ∀ (fn : Fn) (first cap : Array Value) (w : World), (Instr.makeFunc fn first cap).run Tryz.prog w = .ok (.func fn first cap) w := fun _ _ _ _ => rfl
  have HD := Lib.hid hd
  obtain ⟨rv, hdk, -⟩ := hd
  have HK := Lib.hid hdk
  clear hdk
  have hb2 : ∀ o1 o2 : Obj, Below w.heap.size w ((w.alloc o1).alloc o2) := fun o1 o2 => ((Below.refl _ _).alloc (Nat.le_refl _) _).alloc (by simp) _
  have HDU := Lib.hid (show ∀ o1 o2 : Obj, DU ((w.alloc o1).alloc o2) d N sb k (fun b => U b ∨ (w.heap.size ≤ b ∧ b < w.heap.size + 2)) from fun o1 o2 => (HD.out.more (hb2 o1 o2)).mono fun b hb => by simpa using hb)
  go_enter_defers Tryz.func77, Tryz.ntmps77
  go_wp2_with (first
    | (go_at_call 113; refine (region_calls _ d N sb k rv (HK.out.below ((Below.refl _ _).alloc (Nat.le_refl _) _)) fr n hn (by omega)).mono ?_; rintro e w' ⟨rfl, hw⟩; obtain rfl := hw.symm)
    | (go_at_call 132; refine (begin_calls _ (w.heap.size + 1) d fr n gen 0 0 1 (by have := heap_alloc_new (w.alloc (.cells #[.int .i64 0] 25)) (.cells #[.pointer (some ⟨d, 0, none⟩), .int .i64 fr, .int .i64 n, .int .i64 gen, .int .i64 0, .int .i64 0, .int .i64 1, .bool false] 208); simpa [Lg] using this) N sb k _ (HDU.out _ _) (.inr (by omega)) (by omega) hk hfn gen).mono ?_; rintro e w1 ⟨rfl, hd1, kp1⟩; have he := (kp1.block w.heap.size (.inr (by omega))).trans ((heap_alloc_old (w.alloc (.cells #[.int .i64 0] 25)) _ (by simp)).trans (heap_alloc_new w (.cells #[.int .i64 0] 25))); have e1 := (cellD he 0).1; have e2 := (cellD he 0).2; have e3 : (w1.setCell ⟨w.heap.size, 0, none⟩ (.int .i64 0)).cell? ⟨w.heap.size, 0, none⟩ = some (.int .i64 0) := World.cell?_setCell_same _ _ _ (by rw [e1]; rfl); have H1 := Lib.hid (show _ ∧ _ from ⟨hd1, kp1⟩); clear hd1 kp1 he))
  refine leaves_cons (f := 131) (args := #[.pointer (some ⟨w.heap.size, 0, none⟩)]) (by simp) (by simp [go_sem]) ?_
  refine (make1_idle _ _).mono ?_
  rintro e u' w'' ⟨rfl, rfl, rfl⟩
  simp [Leaves, settle, results, Tryz.results77, go_sem, e3]
  have hg := set_grown w1 ⟨w.heap.size, 0, none⟩ (.int .i64 0)
  have hlt := fun b hb => HD.out.lt (b := b) hb
  refine ⟨(H1.out.1.grown (b := w.heap.size) hg (.inr ⟨Nat.le_refl _, by omega⟩)).mono fun b hb => .inl hb, ?_⟩
  exact ((Kp.of_below (hb2 _ _) hlt).trans (H1.out.2.mono fun b hb => .inl hb)).trans (Kp.of_grown hg fun b hb => ⟨H1.out.1.lt (.inl hb), Nat.ne_of_lt (hlt b hb)⟩)
end Go.Proofs.YtokflmiijdpchaaGreat
