/- The walks of lists and rowsOf: all texts, all rows of a tree, in the order of the tree. -/
import Derived.Test.YtplfmpcoojkjlaaDoorK54
namespace Go.Proofs.YtplfmpcoojkjlaaDoor
open Go.RowKit Go.Proofs.YtplfmpcoojkjlaaDoorW.PrintWords
/-- A slice as a row of slices holds it. -/
structure SlH where
  A : Option Addr
  n : Nat
  c : Nat
def SlH.v (s : SlH) : Value := .slice s.A s.n s.c
mutual
def LT.txs : LT VS → List SlH
  | .mk _ th t _ ps => ⟨th.A, t.length, th.cap⟩ :: LT.txss ps
def LT.txss : List (LT VS) → List SlH
  | [] => []
  | p :: ps => p.txs ++ LT.txss ps
end
mutual
def LT.rws : LT VS → List SlH
  | .mk _ _ _ ph ps => ⟨ph.A, ps.length, ph.cap⟩ :: LT.rwss ps
def LT.rwss : List (LT VS) → List SlH
  | [] => []
  | p :: ps => p.rws ++ LT.rwss ps
end
mutual
theorem LT.txs_len : ∀ p : LT VS, p.txs.length = p.cnt
  | .mk _ _ _ _ ps => by simp only [LT.txs, LT.cnt, List.length_cons, LT.txss_len ps]; omega
theorem LT.txss_len : ∀ ps : List (LT VS), (LT.txss ps).length = LT.cnts ps
  | [] => rfl
  | p :: ps => by simp only [LT.txss, LT.cnts, List.length_append, LT.txs_len p, LT.txss_len ps]
end
mutual
theorem LT.rws_len : ∀ p : LT VS, p.rws.length = p.cnt
  | .mk _ _ _ _ ps => by simp only [LT.rws, LT.cnt, List.length_cons, LT.rwss_len ps]; omega
theorem LT.rwss_len : ∀ ps : List (LT VS), (LT.rwss ps).length = LT.cnts ps
  | [] => rfl
  | p :: ps => by simp only [LT.rwss, LT.cnts, List.length_append, LT.rws_len p, LT.rwss_len ps]
end
theorem LT.cnts_app : ∀ ps qs : List (LT VS), LT.cnts (ps ++ qs) = LT.cnts ps + LT.cnts qs
  | [], qs => by simp [LT.cnts]
  | p :: ps, qs => by simp only [List.cons_append, LT.cnts, LT.cnts_app ps qs]; omega
theorem LT.txss_app : ∀ ps qs : List (LT VS), LT.txss (ps ++ qs) = LT.txss ps ++ LT.txss qs
  | [], qs => by simp [LT.txss]
  | p :: ps, qs => by simp only [List.cons_append, LT.txss, LT.txss_app ps qs, List.append_assoc]
theorem LT.rwss_app : ∀ ps qs : List (LT VS), LT.rwss (ps ++ qs) = LT.rwss ps ++ LT.rwss qs
  | [], qs => by simp [LT.rwss]
  | p :: ps, qs => by simp only [List.cons_append, LT.rwss, LT.rwss_app ps qs, List.append_assoc]
theorem LT.cnts_take (ls : List (LT VS)) (k : Nat) (hk : k < ls.length) : LT.cnts (ls.take (k + 1)) = LT.cnts (ls.take k) + (ls[k]).cnt ∧ LT.cnts (ls.take (k + 1)) ≤ LT.cnts ls := by
  have h1 : ls.take (k + 1) = ls.take k ++ [ls[k]] := List.take_succ_eq_append_getElem hk
  refine ⟨by rw [h1, LT.cnts_app]; simp [LT.cnts], ?_⟩
  have h2 := congrArg LT.cnts (List.take_append_drop (k + 1) ls)
  rw [LT.cnts_app] at h2
  omega
theorem LT.txss_take (ls : List (LT VS)) (k : Nat) (hk : k < ls.length) : LT.txss (ls.take (k + 1)) = (LT.txss (ls.take k) ++ [⟨ls[k].th.A, ls[k].text.length, ls[k].th.cap⟩]) ++ LT.txss ls[k].parts := by
  rw [List.take_succ_eq_append_getElem hk, LT.txss_app, List.append_assoc]
  congr 1
  cases ls[k]
  simp [LT.txss, LT.txs, LT.th, LT.text, LT.parts]
theorem LT.rwss_take (ls : List (LT VS)) (k : Nat) (hk : k < ls.length) : LT.rwss (ls.take (k + 1)) = LT.rwss (ls.take k) ++ (⟨ls[k].ph.A, ls[k].parts.length, ls[k].ph.cap⟩ :: LT.rwss ls[k].parts) := by
  rw [List.take_succ_eq_append_getElem hk, LT.rwss_app]
  congr 1
  cases ls[k]
  simp [LT.rwss, LT.rws, LT.ph, LT.parts]
theorem info24 : (Tryd.prog.info? 24).map (fun i => (i.zero, i.size, i.bytes)) = some (some (.slice none 0 0), 1, 24) := by kernel_rfl
theorem info28 : (Tryd.prog.info? 28).map (fun i => (i.zero, i.size, i.bytes)) = some (some (.slice none 0 0), 1, 24) := by kernel_rfl
theorem own_belowS {w w' : World} {base : Nat} {t : TypeId} {v : Value} {n : Nat} {xs : List Value} (h : w.ownsRow base t 1 v n xs) (hb : Below w.heap.size w w') : w'.ownsRow base t 1 v n xs := by
  obtain ⟨h1, h2⟩ := h
  refine ⟨h1, ?_⟩
  rcases h2 with h2 | ⟨g, cap, cur, rfl, hg, hh, r⟩
  · exact .inl h2
  · exact .inr ⟨g, cap, cur, rfl, hg, (hb.block g (Array.getElem?_eq_some_iff.1 hh).1).trans hh, r⟩
/-- A row of slices of the call's own. -/
def OwnS (t : TypeId) (w : World) (base : Nat) (v : Value) (xs : List SlH) : Prop := w.ownsRow base t 1 v xs.length (encs SlH.v xs)
theorem OwnS.nil (t : TypeId) (w : World) (base : Nat) : OwnS t w base (.slice none 0 0) [] := ⟨rfl, .inl ⟨rfl, rfl⟩⟩
theorem OwnS.row {t : TypeId} {w : World} {base : Nat} {A : Option Addr} {n c : Nat} {xs : List SlH} (h : OwnS t w base (.slice A n c) xs) (hn : n = xs.length) : Row w A (encs SlH.v xs) := by
  subst hn
  exact (own_row h).2.1
theorem reads_sl {w : World} {A : Option Addr} {xs : List SlH} (h : Row w A (encs SlH.v xs)) (hm : xs.length ≤ 9223372036854775807) : ReadsOf SlH.v ⟨none, 0, 0⟩ w A xs.length xs :=
  ⟨rfl, hm, fun hp => by
    obtain ⟨b, o, rfl, _, hc⟩ := h.get (by intro e; have h2 := congrArg List.length e; simp [encs] at h2; rw [h2] at hp; simp at hp)
    refine ⟨_, rfl, fun i hi => ?_⟩
    rw [add_plain0, List.getD_eq_getElem?_getD, List.getElem?_eq_getElem hi]
    exact hc i _ (by simp [encs, hi])⟩
theorem OwnS.len {t : TypeId} {w : World} {base n m c : Nat} {A : Option Addr} {xs : List SlH} (h : OwnS t w base (.slice A m c) xs) (e : n = m) : OwnS t w base (.slice A n c) xs := by
  subst e
  exact h
def ListsPost (w : World) (t : TypeId) (xs : List SlH) (e : Ending) (w' : World) : Prop :=
  ∃ (A : Option Addr) (c : Nat), e = .returned (.slice A xs.length c) ∧ OwnS t w' w.heap.size (.slice A xs.length c) xs ∧ Below w.heap.size w w'
def ListsAt (n : Nat) : Prop := ∀ (w : World) (A : Option Addr) (c : Nat) (ls : List (LT VS)), LT.cnts ls ≤ n → RdL VS.enc w A ls → LT.cnts ls ≤ 1099511627776 →
  Calls Tryd.prog 28 #[.slice A ls.length c] w (ListsPost w 24 (LT.txss ls))
set_option maxRecDepth 100000 in
set_option maxHeartbeats 4000000 in
theorem lists_of (n : Nat) (HI : ∀ m, m < n → ListsAt m) : ListsAt n := by
  intro w A c ls hcnt hA hm
  have HA := Lib.hid hA
  have HREC := Lib.hid HI
  have HM := Lib.hid (show _ ∧ _ from ⟨hcnt, hm⟩)
  have hlen : ls.length ≤ 9223372036854775807 := hA.len
  clear hA HI hcnt hm
  go_enter Tryd.func28, Tryd.ntmps28
  go_wp2
  go_loopw [3, 4] (fun vo vi wr => ∃ (k : Nat) (A' : Option Addr) (n' c' : Nat), k ≤ ls.length ∧ vi = .int .i64 k ∧ vo = .slice A' n' c' ∧ n' = (LT.txss (ls.take k)).length ∧ OwnS 24 wr w.heap.size (.slice A' n' c') (LT.txss (ls.take k)) ∧ Below w.heap.size w wr) (fun _ vi _ => ls.length - (intOf vi).toNat)
  case atStart => exact ⟨0, none, 0, 0, by omega, rfl, rfl, rfl, OwnS.nil _ _ _, Below.refl _ _⟩
  case round =>
    obtain ⟨k, A', n', c', hk, rfl, rfl, hn', ho, hb⟩ := hrel
    have HW := Lib.hid (show _ ∧ _ ∧ _ from ⟨hn', ho, hb⟩)
    clear hn' ho hb
    by_cases hlt : k < ls.length
    · have hil : (k : Int) < (ls.length : Int) := by omega
      obtain ⟨b, o, rfl, hblt, hcs, hrd⟩ := HA.out.get VS.enc5 k hlt
      have hcp : LT.cnts (ls[k]).parts < n ∧ LT.cnts (ls[k]).parts ≤ 1099511627776 := by
        have h1 := LT.cnt_parts ls[k]
        have h2 := LT.cnt_mem (List.getElem_mem hlt)
        have := HM.out
        omega
      have hct := LT.cnts_take ls k hlt
      have hcp2 := LT.cnt_parts ls[k]
      have htk := LT.txss_take ls k hlt
      have hsz : (LT.txss (ls.take k)).length + (1 + (LT.txss ls[k].parts).length) ≤ 1099511627776 := by
        rw [LT.txss_len, LT.txss_len]
        have := HM.out
        omega
      generalize ls[k] = l at *
      have hg : ∀ w', Below w.heap.size w w' → w'.cell? ⟨b, o + k * 7 + 5, none⟩ = some (.slice l.th.A l.text.length l.th.cap) ∧ w'.cell? ⟨b, o + k * 7 + 6, none⟩ = some (.slice l.ph.A l.parts.length l.ph.cap) := fun w' hb =>
        ⟨(hb.cell (p := ⟨b, _, none⟩) hblt).trans (rd_cell 5 hcs (by omega) rfl), (hb.cell (p := ⟨b, _, none⟩) hblt).trans (rd_cell 6 hcs (by omega) rfl)⟩
      have HG := Lib.hid (show _ ∧ _ ∧ _ ∧ _ ∧ _ from ⟨hg, hrd, hcp, htk, hsz⟩)
      clear hg hcs hrd hcp htk hsz hct hcp2
      have a5 := (HG.out.1 wr HW.out.2.2).1
      go_wp2_with (((with_reducible refine gate_dst (N := 18) rfl ?_); go_loud (refine print_append_of SlH.v w.heap.size rfl (.tmp 11) (.tmp 17) 58 24 _ 24 rfl Tryd.underlying58 info24 rfl (by decide) _ (LT.txss (ls.take k)) (SlH.mk l.th.A l.text.length l.th.cap) rfl rfl rfl HW.out.2.1 HW.out.2.2 HW.out.2.2.size (by have := HG.out.2.2.2.2; omega) ?_); intro v5 w5 ho5 hb5 hx5 hy5; obtain ⟨A5, c5, rfl⟩ := own_slice ho5; have H5 := Lib.hid (show _ ∧ _ from ⟨ho5, hb5⟩); clear hx5 hy5 ho5 hb5 a5; have a6 := (HG.out.1 w5 H5.out.2).2))
      refine (HREC.out (LT.cnts l.parts) HG.out.2.2.1.1 w5 l.ph.A l.ph.cap l.parts (Nat.le_refl _) (HG.out.2.1.parts.below H5.out.2) HG.out.2.2.1.2).mono ?_
      rintro e w6 ⟨A6, c6, rfl, ho6, hb6⟩
      have H6 := Lib.hid (show _ ∧ _ ∧ _ from ⟨ho6.row rfl, hb6, OwnS.len (n := (LT.txss (ls.take k)).length + 1) (show OwnS 24 w6 w.heap.size _ (LT.txss (ls.take k) ++ [SlH.mk l.th.A l.text.length l.th.cap]) from own_belowS H5.out.1 hb6) (by simp)⟩)
      have H7 := Lib.hid (H5.out.2.trans (hb6.mono H5.out.2.size))
      clear ho6 hb6 a6
      go_wp2_with (((with_reducible refine gate_dst (N := 26) rfl ?_); go_loud (refine print_append_row_of SlH.v ⟨none, 0, 0⟩ w.heap.size rfl (.tmp 19) (.tmp 25) 58 24 _ 24 rfl Tryd.underlying58 info24 rfl (by decide) (fun _ => rfl) (.slice A5 ((LT.txss (ls.take k)).length + 1) c5) (LT.txss (ls.take k) ++ [SlH.mk l.th.A l.text.length l.th.cap]) (LT.txss l.parts) A6 _ c6 rfl rfl H6.out.2.2 (reads_sl H6.out.1 (by have := HG.out.2.2.2.2; omega)) H7.out H7.out.size (by have := HG.out.2.2.2.2; simp only [List.length_append, List.length_cons, List.length_nil]; omega) ?_); intro v7 w7 ho7 hb7 hx7 hy7; obtain ⟨A7, c7, rfl⟩ := own_slice ho7; have H8 := Lib.hid (show _ ∧ _ from ⟨ho7, hb7⟩); clear hx7 hy7 ho7 hb7))
      go_roundw
      case rel => exact ⟨k + 1, A7, _, c7, by omega, by go_num, rfl, by rw [HG.out.2.2.2.1]; simp; try omega, by rw [HG.out.2.2.2.1]; exact OwnS.len H8.out.1 (by simp; try omega), H8.out.2⟩
      case measure => simp [intOf]; omega
    · obtain rfl : k = ls.length := by omega
      have HE := Lib.hid (show _ ∧ _ ∧ _ from HW.out)
      clear HW
      go_wp2
      go_ret
      have h1 := HE.out.1
      have h2 := HE.out.2.1
      rw [List.take_length] at h1 h2
      subst h1
      exact ⟨A', c', rfl, h2, HE.out.2.2⟩
theorem lists_all (n : Nat) : ListsAt n := by
  induction n using Nat.strongRecOn with
  | ind n ih => exact lists_of n ih
def RowsAt (n : Nat) : Prop := ∀ (w : World) (A : Option Addr) (c : Nat) (ls : List (LT VS)), LT.cnts ls ≤ n → RdL VS.enc w A ls → LT.cnts ls ≤ 1099511627776 →
  Calls Tryd.prog 29 #[.slice A ls.length c] w (ListsPost w 28 (SlH.mk A ls.length c :: LT.rwss ls))
set_option maxRecDepth 100000 in
set_option maxHeartbeats 4000000 in
theorem rowsOf_of (n : Nat) (HI : ∀ m, m < n → RowsAt m) : RowsAt n := by
  intro w A c ls hcnt hA hm
  have HA := Lib.hid hA
  have HREC := Lib.hid HI
  have HM := Lib.hid (show _ ∧ _ from ⟨hcnt, hm⟩)
  have hlen : ls.length ≤ 9223372036854775807 := hA.len
  clear hA HI hcnt hm
  go_enter Tryd.func29, Tryd.ntmps29
  go_wp2
  go_loopw [3, 4] (fun vo vi wr => ∃ (k : Nat) (A' : Option Addr) (n' c' : Nat), k ≤ ls.length ∧ vi = .int .i64 k ∧ vo = .slice A' n' c' ∧ n' = (SlH.mk A ls.length c :: LT.rwss (ls.take k)).length ∧ OwnS 28 wr w.heap.size (.slice A' n' c') (SlH.mk A ls.length c :: LT.rwss (ls.take k)) ∧ Below w.heap.size w wr) (fun _ vi _ => ls.length - (intOf vi).toNat)
  case atStart =>
    refine ⟨0, some ⟨w.heap.size, 0, none⟩, 1, 1, by omega, rfl, rfl, rfl, ?_, (Below.refl _ _).alloc (Nat.le_refl _) _⟩
    have h := World.ownsRow_lit (base := w.heap.size) (e := 28) (size := 1) w #[(SlH.mk A ls.length c).v] 1 (Nat.le_refl _) (by decide) rfl
    simpa [OwnS, encs, LT.rwss, SlH.v] using h
  case round =>
    obtain ⟨k, A', n', c', hk, rfl, rfl, hn', ho, hb⟩ := hrel
    have HW := Lib.hid (show _ ∧ _ ∧ _ from ⟨hn', ho, hb⟩)
    clear hn' ho hb
    by_cases hlt : k < ls.length
    · have hil : (k : Int) < (ls.length : Int) := by omega
      obtain ⟨b, o, hAe, hblt, hcs, hrd⟩ := HA.out.get VS.enc5 k hlt
      have hcp : LT.cnts (ls[k]).parts < n ∧ LT.cnts (ls[k]).parts ≤ 1099511627776 := by
        have h1 := LT.cnt_parts ls[k]
        have h2 := LT.cnt_mem (List.getElem_mem hlt)
        have := HM.out
        omega
      have hct := LT.cnts_take ls k hlt
      have hcp2 := LT.cnt_parts ls[k]
      have htk := LT.rwss_take ls k hlt
      have hsz : (LT.rwss (ls.take k)).length + (1 + (LT.rwss ls[k].parts).length) ≤ 1099511627776 := by
        rw [LT.rwss_len, LT.rwss_len]
        have := HM.out
        omega
      generalize ls[k] = l at *
      have hg : ∀ w', Below w.heap.size w w' → w'.cell? ⟨b, o + k * 7 + 6, none⟩ = some (.slice l.ph.A l.parts.length l.ph.cap) := fun w' hb =>
        (hb.cell (p := ⟨b, _, none⟩) hblt).trans (rd_cell 6 hcs (by omega) rfl)
      have HG := Lib.hid (show _ ∧ _ ∧ _ ∧ _ ∧ _ from ⟨hg, hrd, hcp, htk, hsz⟩)
      clear hg hcs hrd hcp htk hsz hct hcp2
      subst hAe
      have a6 := HG.out.1 wr HW.out.2.2
      go_wp2_with fail
      refine (HREC.out (LT.cnts l.parts) HG.out.2.2.1.1 wr l.ph.A l.ph.cap l.parts (Nat.le_refl _) (HG.out.2.1.parts.below HW.out.2.2) HG.out.2.2.1.2).mono ?_
      rintro e w6 ⟨A6, c6, rfl, ho6, hb6⟩
      have H6 := Lib.hid (show _ ∧ _ ∧ _ from ⟨ho6.row rfl, hb6, (show OwnS 28 w6 w.heap.size (.slice A' n' c') _ from own_belowS HW.out.2.1 hb6)⟩)
      have H7 := Lib.hid (HW.out.2.2.trans (hb6.mono HW.out.2.2.size))
      clear ho6 hb6 a6
      go_wp2_with (((with_reducible refine gate_dst (N := 20) rfl ?_); go_loud (refine print_append_row_of SlH.v ⟨none, 0, 0⟩ w.heap.size rfl (.tmp 13) (.tmp 19) 60 28 _ 24 rfl Tryd.underlying60 info28 rfl (by decide) (fun _ => rfl) (.slice A' n' c') (SlH.mk (some ⟨b, o, none⟩) ls.length c :: LT.rwss (ls.take k)) (SlH.mk l.ph.A l.parts.length l.ph.cap :: LT.rwss l.parts) A6 _ c6 rfl rfl H6.out.2.2 (reads_sl H6.out.1 (by have := HG.out.2.2.2.2; simp only [List.length_cons]; omega)) H7.out H7.out.size (by have := HG.out.2.2.2.2; simp only [List.length_cons]; omega) ?_); intro v7 w7 ho7 hb7 hx7 hy7; obtain ⟨A7, c7, rfl⟩ := own_slice ho7; have H8 := Lib.hid (show _ ∧ _ from ⟨ho7, hb7⟩); clear hx7 hy7 ho7 hb7))
      go_roundw
      case rel => exact ⟨k + 1, A7, _, c7, by omega, by go_num, rfl, by rw [HG.out.2.2.2.1]; simp; try omega, by rw [HG.out.2.2.2.1]; exact OwnS.len H8.out.1 (by simp; try omega), H8.out.2⟩
      case measure => simp [intOf]; omega
    · obtain rfl : k = ls.length := by omega
      have HE := Lib.hid (show _ ∧ _ ∧ _ from HW.out)
      clear HW
      go_wp2
      go_ret
      have h1 := HE.out.1
      have h2 := HE.out.2.1
      rw [List.take_length] at h1 h2
      subst h1
      exact ⟨A', c', rfl, h2, HE.out.2.2⟩
theorem rowsOf_all (n : Nat) : RowsAt n := by
  induction n using Nat.strongRecOn with
  | ind n ih => exact rowsOf_of n ih
end Go.Proofs.YtplfmpcoojkjlaaDoor
