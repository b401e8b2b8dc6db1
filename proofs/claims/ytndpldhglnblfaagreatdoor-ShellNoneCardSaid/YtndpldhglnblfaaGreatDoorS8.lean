/- The map of the commands. -/
import Derived.Test.YtndpldhglnblfaaGreatDoorS7
import Derived.Sort.MapsRangeIn
namespace Go.Proofs.YtndpldhglnblfaaGreatDoor
open Go.RowKit Go.Maps
def K5 : List (List UInt8) := [[103, 101, 116], [112, 117, 116], [100, 101, 108, 101, 116, 101], [115, 119, 97, 112], [115, 101, 101, 107]]
def K11 : List (List UInt8) := [[109, 111, 118, 101], [99, 97, 110, 99, 101, 108], [100, 101, 108, 105, 118, 101, 114], [100, 114, 111, 112], [116, 119, 105, 99, 101], [116, 105, 99, 107], [102, 117, 115, 101], [99, 114, 97, 115, 104], [114, 101, 115, 116, 97, 114, 116], [114, 111, 117, 110, 100], [98, 97, 108, 97, 110, 99, 101]]
/-- What stands at "round". -/
def RD (w : World) (S : Nat) (v : Value) : Prop := ∃ b b2, v = duringF b ∧ CellsAt w b #[.pointer (some ⟨S, 0, none⟩)] 22 ∧ CellsAt w (b + 1) #[actF b2] 34 ∧ CellsAt w b2 #[.pointer (some ⟨S, 0, none⟩)] 22 ∧ CellsAt w (b2 + 1) #[.string ⟨#[]⟩, .int .i64 11] 61
theorem RD.keep {w w' : World} (hk : Kc w w') {S : Nat} {v : Value} : RD w S v → RD w' S v := fun ⟨b, b2, h, h1, h2, h3, h4⟩ => ⟨b, b2, h, hk _ _ _ h1, hk _ _ _ h2, hk _ _ _ h3, hk _ _ _ h4⟩
theorem invKs : ∀ key kl, keyOf Tryz.prog 9 key = some kl → ∃ x, key = Value.string x := fun _ _ h => Maps.keyOf_string_inv Tryz.underlying9 h
theorem Cmd.put' {w0 w w' : World} {S M n : Nat} {D : DataW Value} (h : Cmd w0 w S M n D) {s : List UInt8} {v : Value} (ho : w'.ownsMap Tryz.prog 9 heldR M (n + 1) (D.put (.string s) (.held v))) (hg : w.grownBy w' (some M)) (h1 : s ≠ [115, 101, 114, 118, 101, 114, 115]) (h2 : s ≠ [98, 101, 103, 105, 110]) (h3 : s.length ≤ 100) : Cmd w0 w' S M (n + 1) (D.put (.string s) (.held v)) :=
  h.put ⟨ho, h.cm.ge, h.cm.below.grown hg h.cm.below.size (fun q hq => by cases hq; exact h.cm.ge)⟩ (h.cm.kc hg) h1 h2 h3
theorem during_call (w : World) (a : Option Addr) (b : Nat) : Calls Tryz.prog 22 #[.pointer a, callF b] w fun e w' => e = .returned (duringF w.heap.size) ∧ w' = (w.alloc (.cells #[.pointer a] 22)).alloc (.cells #[callF b] 34) := during_calls w a _ _ _
theorem during_act (w : World) (a : Option Addr) (b : Nat) : Calls Tryz.prog 22 #[.pointer a, actF b] w fun e w' => e = .returned (duringF w.heap.size) ∧ w' = (w.alloc (.cells #[.pointer a] 22)).alloc (.cells #[actF b] 34) := during_calls w a _ _ _
set_option maxRecDepth 100000 in
set_option maxHeartbeats 8000000 in
theorem all_calls (w : World) (S : Nat) : Calls Tryz.prog 12 #[.pointer (some ⟨S, 0, none⟩)] w fun e w' => ∃ M n D, e = .returned (.map (some M)) ∧ Cmd w w' S M n D ∧ n ≤ 117 ∧ ∃ v, (∀ z, D.atKey (.string [114, 111, 117, 110, 100]) z = .held v) ∧ RD w' S v := by
  go_enter Tryz.func12, Tryz.ntmps12
  go_wp2_with (fail)
  go_cut [3] (fun v3 wc => ∃ M n D, v3 = .map (some M) ∧ Kmds w wc S M n D)
  case first =>
    rename_i J K1 hJ hK1
    refine region1F (S := S) fun u w1 M n D hk => ?_
    unfold F1
    dsimp only
    refine hK1 _ _ (Met.intro (hJ _ _ ?_))
    (repeat apply Exists.intro)
    exact ⟨⟨M, n, D, rfl, hk⟩, rfl⟩
  case rest =>
    obtain ⟨M, n, D, rfl, hk⟩ := hcut
    have HO := Lib.hid (show Cmd w (wc.alloc (.map #[] 0)) S M n D ∧ (wc.alloc (.map #[] 0)).ownsMap Tryz.prog 9 R5 wc.heap.size 0 (.map []) ∧ M ≠ wc.heap.size ∧ w.heap.size ≤ wc.heap.size ∧ n ≤ 101 from ⟨hk.cmd.alloc _, World.ownsMap_made _ _ _ _, Nat.ne_of_lt hk.cm.own.lt, hk.cm.below.size, hk.nb⟩)
    clear hk
    have hmm := @run_makeMap Tryz.prog
    go_wp2_with (first
      | (refine wpList_putR lawS _ rfl rfl (.tmp 91) _ _ 58 rfl Tryz.underlying58 R5 wc.heap.size _ _ rfl HO.out.2.1 (by decide) _ _ _ (Go.WideMaps.keyOf_string_mk Tryz.underlying9 (by decide)) rfl rfl rfl ?_; intro w2 ho2 hg2; have HN := Lib.hid (show Cmd w w2 S M n D ∧ _ ∧ M ≠ wc.heap.size ∧ w.heap.size ≤ wc.heap.size ∧ n ≤ 101 from ⟨HO.out.1.other hg2 (owns_nocells HO.out.2.1) HO.out.2.2.2.1 HO.out.2.2.1, ho2, HO.out.2.2⟩); clear ho2 hg2 HO; have HO := HN; clear HN)
      | (at_range; refine wpList_range_own _ rfl (.tmp 92) 58 rfl 9 3 lawS Tryz.underlying58 R5 wc.heap.size _ _ rfl HO.out.2.1 ?_; intro w3 hrg3 hg3 hs3; have HR := Lib.hid (show Cmd w w3 S M n D ∧ w3.ranges Tryz.prog 9 R5 wc.heap.size w2.heap.size _ _ _ _ ∧ M ≠ wc.heap.size ∧ w.heap.size ≤ wc.heap.size ∧ n ≤ 101 ∧ M ≠ w2.heap.size ∧ w.heap.size ≤ w2.heap.size from ⟨HO.out.1.none hg3, hrg3, HO.out.2.2.1, HO.out.2.2.2.1, HO.out.2.2.2.2, Nat.ne_of_lt HO.out.1.cm.own.lt, HO.out.1.cm.below.size⟩); clear hrg3 hg3 hs3 HO))
    go_loopw [] (fun wr => ∃ n' D' D2 left cnt, Cmd w wr S M n' D' ∧ wr.ranges Tryz.prog 9 R5 wc.heap.size w2.heap.size 5 D2 left cnt ∧ n' + cnt ≤ 106 ∧ (∀ kl, left kl = true → ∃ s ∈ K5, kl = .string s)) (fun wr => wr.rangeLeft wc.heap.size w2.heap.size)
    case atStart =>
      have hc := ranges_cnt HR.out.2.1
      refine ⟨n, D, _, _, _, HR.out.1, HR.out.2.1, by have := HR.out.2.2.2.2.1; omega, fun kl h => ?_⟩
      rcases has_put_cases h with rfl | h
      · exact ⟨_, by decide, rfl⟩
      rcases has_put_cases h with rfl | h
      · exact ⟨_, by decide, rfl⟩
      rcases has_put_cases h with rfl | h
      · exact ⟨_, by decide, rfl⟩
      rcases has_put_cases h with rfl | h
      · exact ⟨_, by decide, rfl⟩
      rcases has_put_cases h with rfl | h
      · exact ⟨_, by decide, rfl⟩
      rw [has_eq] at h
      cases h
    case round =>
      obtain ⟨n', D', D2, left, cnt, hc0, hrg, hn0, hl0⟩ := hrel
      have H0 := Lib.hid (show Cmd w wr S M n' D' ∧ wr.ranges Tryz.prog 9 R5 wc.heap.size w2.heap.size 5 D2 left cnt ∧ n' + cnt ≤ 106 ∧ _ from ⟨hc0, hrg, hn0, hl0⟩)
      clear hc0 hrg hn0 hl0
      go_wp2_with (first
        | (at_next; refine wpList_next_ranges _ rfl (.tmp 93) rfl 9 lawS R5 Value.string (Value.int .i64) invKs (fun _ _ h => r5_inv h) wc.heap.size w2.heap.size 5 D2 left cnt rfl H0.out.2.1 ?_ ?_))
      · intro h0 hl
        have HO2 := Lib.hid (show Cmd w (wr.alloc (.map #[] 0)) S M n' D' ∧ (wr.alloc (.map #[] 0)).ownsMap Tryz.prog 9 R11 wr.heap.size 0 (.map []) ∧ M ≠ wr.heap.size ∧ w.heap.size ≤ wr.heap.size ∧ n' ≤ 106 from ⟨H0.out.1.alloc _, World.ownsMap_made _ _ _ _, Nat.ne_of_lt H0.out.1.cm.own.lt, H0.out.1.cm.below.size, by have := H0.out.2.2.1; omega⟩)
        obtain ⟨bM, hbM⟩ : ∃ b, b = wr.heap.size := ⟨_, rfl⟩
        have HB := Lib.hid hbM
        clear H0 HR h0 hl hbM
        go_wp2_with (first
          | (refine wpList_putR lawS _ rfl rfl (.tmp 106) _ _ 62 rfl Tryz.underlying62 R11 wr.heap.size _ _ rfl HO2.out.2.1 (by decide) _ _ _ (Go.WideMaps.keyOf_string_mk Tryz.underlying9 (by decide)) rfl rfl (r11_some _ _) ?_; intro w6 ho2 hg2; have HN := Lib.hid (show Cmd w w6 S M n' D' ∧ _ ∧ M ≠ wr.heap.size ∧ w.heap.size ≤ wr.heap.size ∧ n' ≤ 106 from ⟨HO2.out.1.other hg2 (owns_nocells HO2.out.2.1) HO2.out.2.2.2.1 HO2.out.2.2.1, ho2, HO2.out.2.2⟩); clear ho2 hg2 HO2; have HO2 := HN; clear HN)
          | (at_range; refine wpList_range_own _ rfl (.tmp 118) 62 rfl 9 61 lawS Tryz.underlying62 R11 wr.heap.size _ _ rfl HO2.out.2.1 ?_; intro w3 hrg3 hg3 hs3; have HR2 := Lib.hid (show Cmd w w3 S M n' D' ∧ w3.ranges Tryz.prog 9 R11 wr.heap.size w6.heap.size _ _ _ _ ∧ M ≠ wr.heap.size ∧ w.heap.size ≤ wr.heap.size ∧ n' ≤ 106 ∧ M ≠ w6.heap.size ∧ w.heap.size ≤ w6.heap.size from ⟨HO2.out.1.none hg3, hrg3, HO2.out.2.2.1, HO2.out.2.2.2.1, HO2.out.2.2.2.2, Nat.ne_of_lt HO2.out.1.cm.own.lt, HO2.out.1.cm.below.size⟩); clear hrg3 hg3 hs3 HO2))
        go_loopw [] (fun wq => ∃ n' D' D2 left cnt, Cmd w wq S M n' D' ∧ wq.ranges Tryz.prog 9 R11 bM w6.heap.size 11 D2 left cnt ∧ n' + cnt ≤ 117 ∧ (∀ kl, left kl = true → ∃ s ∈ K11, kl = .string s) ∧ (∀ z, D2.atKey (.string [114, 111, 117, 110, 100]) z = .held (.agg #[.string ⟨#[]⟩, .int .i64 11])) ∧ (left (.string [114, 111, 117, 110, 100]) = false → ∃ v, (∀ z, D'.atKey (.string [114, 111, 117, 110, 100]) z = .held v) ∧ RD wq S v)) (fun wq => wq.rangeLeft bM w6.heap.size)
        case atStart =>
          have e := HB.out
          subst e
          have hc := ranges_cnt HR2.out.2.1
          refine ⟨n', D', _, _, _, HR2.out.1, HR2.out.2.1, by have := HR2.out.2.2.2.2.1; omega, fun kl h => ?_, fun z => by kernel_rfl, fun h => ?_⟩
          · iterate 11
              rcases has_put_cases h with rfl | h
              · exact ⟨_, by decide, rfl⟩
            rw [has_eq] at h
            cases h
          · exact absurd h (by simp only [Bool.not_eq_false]; kernel_rfl)
        case round =>
          obtain ⟨n2, D3, D4, left, cnt, hc0, hrg, hn0, hl0, hr0, hd0⟩ := hrel
          have H3 := Lib.hid (show Cmd w wr S M n2 D3 ∧ wr.ranges Tryz.prog 9 R11 bM w6.heap.size 11 D4 left cnt ∧ n2 + cnt ≤ 117 ∧ _ ∧ _ ∧ _ from ⟨hc0, hrg, hn0, hl0, hr0, hd0⟩)
          clear hc0 hrg hn0 hl0 hr0 hd0
          go_wp2_with (first
            | (at_next; refine wpList_next_ranges _ rfl (.tmp 119) rfl 9 lawS R11 Value.string (fun p : ByteArray × Int => .agg #[.string p.1, .int .i64 p.2]) invKs (fun _ _ h => r11_inv h) bM w6.heap.size 11 D4 left cnt rfl H3.out.2.1 ?_ ?_))
          · intro h0 hl
            have H4 := Lib.hid (show Cmd w wr S M n2 D3 ∧ n2 ≤ 117 ∧ _ from ⟨H3.out.1, by have := H3.out.2.2.1; omega, H3.out.2.2.2.2.2 (hl _)⟩)
            clear H3 HR2 h0 hl
            go_wp2_with (fail)
            go_ret
            exact ⟨M, n2, D3, rfl, H4.out.1, H4.out.2.1, H4.out.2.2⟩
          · intro x c1 c2 kl y1 y2 w1 cnt1 hkey hlk hv hat hrg1 hlt hg1 hs1 hen
            obtain ⟨s, hs5, rfl⟩ := H3.out.2.2.2.1 kl hlk
            have hy : y1 = .held (.agg #[.string c1, .int .i64 c2]) := congrArg Prod.fst (r11_held hv)
            have H1 := Lib.hid (show Cmd w w1 S M n2 D3 ∧ w1.ranges Tryz.prog 9 R11 bM w6.heap.size 11 D4 (fun z => left z && !z.sameKey (.string s)) cnt1 ∧ cnt1 < cnt ∧ s ∈ K11 ∧ keyOf Tryz.prog 9 (.string x) = some (.string s) ∧ (∀ z, D4.atKey (.string s) z = .held (.agg #[.string c1, .int .i64 c2])) ∧ (wr.grownBy w1 (some w6.heap.size)) from ⟨H3.out.1.other hg1 (ranges_nocells H3.out.2.1) HR2.out.2.2.2.2.2.2 HR2.out.2.2.2.2.2.1, hrg1, hlt, hs5, hkey, fun z => (hat z).trans hy, hg1⟩)
            clear hkey hlk hv hat hrg1 hlt hg1 hs1 hs5 hy
            go_wp2_with (first
              | (go_at_call 31; refine (act_calls _ _ _ _).mono ?_; rintro e w' ⟨rfl, rfl⟩)
              | (go_at_call 22; refine (during_act _ _ _).mono ?_; rintro e w' ⟨rfl, rfl⟩)
              | (refine wpList_putP lawS _ rfl rfl (.tmp 125) (.tmp 126) (.tmp 131) 42 (.inl rfl) Tryz.underlying42 M n2 D3 rfl (((((H1.out.1.alloc _).alloc _).alloc _).alloc _).alloc _).cm.own (by have := H3.out.2.2.1; unfold maxLen; omega) _ _ _ H1.out.2.2.2.2.1 rfl rfl ?_; intro w5 ho5 hg5))
            have hMb : M ≠ bM := by rw [HB.out]; exact HR2.out.2.2.1
            have hrg5 := (((((H1.out.2.1.alloc _).alloc _).alloc _).alloc _).alloc _).kept hg5 (fun e => hMb (Option.some.inj e).symm) (fun e => HR2.out.2.2.2.2.2.1 (Option.some.inj e).symm)
            have hkc := (((((H1.out.1.alloc _).alloc _).alloc _).alloc _).alloc _).cm.kc hg5
            refine ⟨⟨n2 + 1, _, D4, _, cnt1, Cmd.put' (((((H1.out.1.alloc _).alloc _).alloc _).alloc _).alloc _) ho5 hg5 ?_ ?_ ?_, hrg5, ?_, fun kl h => H3.out.2.2.2.1 kl ?_, H3.out.2.2.2.2.1, fun h => ?_⟩, ?_⟩
            · rintro rfl
              exact absurd H1.out.2.2.2.1 (by decide)
            · rintro rfl
              exact absurd H1.out.2.2.2.1 (by decide)
            · exact (show ∀ u ∈ K11, u.length ≤ 100 by decide) _ H1.out.2.2.2.1
            · have h1 := H1.out.2.2.1
              have h2 := H3.out.2.2.1
              omega
            · simp only [Bool.and_eq_true] at h
              exact h.1
            · by_cases hs : s = [114, 111, 117, 110, 100]
              · subst hs
                refine ⟨_, fun z => atKey_put_same H3.out.1.cm.own.isMap (strKey _) _ z, ?_⟩
                have e1 := (H1.out.2.2.2.2.2.1 (.map [])).symm.trans (H3.out.2.2.2.2.1 (.map []))
                simp only [DataW.held.injEq, Value.agg.injEq] at e1
                have e2 : c1 = ⟨#[]⟩ ∧ c2 = 11 := by simpa using e1
                obtain ⟨rfl, rfl⟩ := e2
                refine RD.keep hkc ?_
                obtain ⟨k1, k2, k3, _⟩ := two_new (w1.alloc (.cells #[.string ⟨#[]⟩, .int .i64 11] 61)) #[.pointer (some ⟨S, 0, none⟩)] #[.string ⟨#[]⟩, .int .i64 11] 22 61
                obtain ⟨l1, l2, l3, _⟩ := two_new (((w1.alloc (.cells #[.string ⟨#[]⟩, .int .i64 11] 61)).alloc (.cells #[.pointer (some ⟨S, 0, none⟩)] 22)).alloc (.cells #[.string ⟨#[]⟩, .int .i64 11] 61)) #[.pointer (some ⟨S, 0, none⟩)] #[actF (w1.heap.size + 1)] 22 34
                refine ⟨w1.heap.size + 1 + 1 + 1, w1.heap.size + 1, rfl, by simpa using l1, by simpa using l2, l3 _ _ _ (by simpa using k1), l3 _ _ _ (by simpa using k2)⟩
              · have hx : left (.string [114, 111, 117, 110, 100]) = false := by
                  have hsk : (Lit.string [114, 111, 117, 110, 100]).sameKey (.string s) = false := by
                    simp only [Lit.sameKey]
                    simpa using fun e : [114, 111, 117, 110, 100] = s => hs e.symm
                  simpa [hsk] using h
                obtain ⟨v, hv1, hv2⟩ := H3.out.2.2.2.2.2 hx
                refine ⟨v, fun z => ?_, ((((((hv2.keep (kc_grown H1.out.2.2.2.2.2.2 (ranges_nocells H3.out.2.1))).keep (Kc.alloc _ _)).keep (Kc.alloc _ _)).keep (Kc.alloc _ _)).keep (Kc.alloc _ _)).keep (Kc.alloc _ _)).keep hkc⟩
                rw [atKey_put_other (fun e => hs (by injection e with e; exact e.symm)) _ z]
                exact hv1 z
            · rw [hrg5.left_eq, H3.out.2.1.left_eq]
              exact H1.out.2.2.1
      · intro x c kl y1 y2 w1 cnt1 hkey hlk hv hat hrg1 hlt hg1 hs1 hen
        obtain ⟨s, hs5, rfl⟩ := H0.out.2.2.2 kl hlk
        have H1 := Lib.hid (show Cmd w w1 S M n' D' ∧ w1.ranges Tryz.prog 9 R5 wc.heap.size w2.heap.size 5 D2 (fun z => left z && !z.sameKey (.string s)) cnt1 ∧ cnt1 < cnt ∧ s ∈ K5 ∧ keyOf Tryz.prog 9 (.string x) = some (.string s) from ⟨H0.out.1.other hg1 (ranges_nocells H0.out.2.1) HR.out.2.2.2.2.2.2 HR.out.2.2.2.2.2.1, hrg1, hlt, hs5, hkey⟩)
        clear hkey hlk hv hat hrg1 hlt hg1 hs1 hs5
        go_wp2_with (first
          | (go_at_call 30; refine (call_calls _ _ _).mono ?_; rintro e w' ⟨rfl, rfl⟩)
          | (go_at_call 22; refine (during_call _ _ _).mono ?_; rintro e w' ⟨rfl, rfl⟩)
          | (refine wpList_putP lawS _ rfl rfl (.tmp 99) (.tmp 100) (.tmp 105) 42 (.inl rfl) Tryz.underlying42 M n' D' rfl ((((H1.out.1.alloc _).alloc _).alloc _).alloc _).cm.own (by have := H0.out.2.2.1; unfold maxLen; omega) _ _ _ H1.out.2.2.2.2 rfl rfl ?_; intro w5 ho5 hg5))
        have hrg5 := ((((H1.out.2.1.alloc _).alloc _).alloc _).alloc _).kept hg5 (fun e => HR.out.2.2.1 (Option.some.inj e).symm) (fun e => HR.out.2.2.2.2.2.1 (Option.some.inj e).symm)
        refine ⟨⟨n' + 1, _, D2, _, cnt1, Cmd.put' ((((H1.out.1.alloc _).alloc _).alloc _).alloc _) ho5 hg5 ?_ ?_ ?_, hrg5, ?_, fun kl h => H0.out.2.2.2 kl ?_⟩, ?_⟩
        · rintro rfl
          exact absurd H1.out.2.2.2.1 (by decide)
        · rintro rfl
          exact absurd H1.out.2.2.2.1 (by decide)
        · exact (show ∀ u ∈ K5, u.length ≤ 100 by decide) _ H1.out.2.2.2.1
        · have h1 := H1.out.2.2.1
          have h2 := H0.out.2.2.1
          omega
        · simp only [Bool.and_eq_true] at h
          exact h.1
        · rw [hrg5.left_eq, H0.out.2.1.left_eq]
          exact H1.out.2.2.1
end Go.Proofs.YtndpldhglnblfaaGreatDoor
