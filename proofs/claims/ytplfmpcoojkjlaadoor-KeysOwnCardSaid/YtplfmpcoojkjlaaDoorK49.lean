/- The walks of bytes.Count, bytes.Index, bytes.Replace at a nought that becomes a nought and a 255. -/
import Derived.Test.YtplfmpcoojkjlaaDoorK48
import Derived.Laws.CopyOwn
import Derived.StillTailTactics
import Derived.Shelf.Bytes.SlCountOne
namespace Go.Proofs.YtplfmpcoojkjlaaDoor
open Go.RowKit Go.Proofs.YtplfmpcoojkjlaaDoorW.PrintWords
set_option maxRecDepth 100000 in
theorem count_calls (w : World) (A : Option Addr) (xs : List Int) (c g : Nat) (hr : Row w A (nums8 xs)) (hx : Byt xs) (hg : w.cell? ⟨g, 0, none⟩ = some (.int .u8 0)) :
    Calls Tryd.prog 63 #[.slice A xs.length c, .slice (some ⟨g, 0, none⟩) 1 1] w fun e w' => e = .returned (.int .i64 (cnt0 xs)) ∧ w' = w := by
  have hrun : (callFunc 71 #[.slice A xs.length c, .int .u8 0]).run Tryd.prog w = .ok (.value (.int .i64 (cnt0 xs))) w := by
    rw [run_callFunc_extern (P := Tryd.prog) (f := 71) (fn := Tryd.f71) (e := Extern.BytealgCount.count) (by rfl) (by kernel_rfl) (by kernel_rfl) (by kernel_rfl) (by kernel_rfl)]
    have e : (Extern.BytealgCount.count #[.slice A xs.length c, .int .u8 0]).run Tryd.prog w = .ok (.int .i64 (cnt0 xs)) w := by
      cases A with
      | none =>
        obtain rfl : xs = [] := by
          rcases hr with h | ⟨b, o, h, _⟩
          · simpa [nums8] using h
          · cases h
        exact Lib.run_countNil w 0 c 0
      | some a =>
        rw [Lib.run_countAt w a xs.length c xs rfl (fun i hi => by
          rcases hr with h | ⟨b, o, h, _, hc⟩
          · obtain rfl : xs = [] := by simpa [nums8] using h
            simp at hi
          · injection h with h
            subst h
            rw [add_plain0, List.getD_eq_getElem?_getD, List.getElem?_eq_getElem hi]
            exact hc i _ (nums8_get xs i hi)) 0]
        show Result.ok (Value.int IntKind.i64 (Lib.countByte (Lib.bytesOf xs) 0)) w = _
        rw [cnt0_lib xs hx]
    rw [e]
    rfl
  have HR := Lib.hid hrun
  clear hr hx
  generalize cnt0 xs = r at *
  go_enter Tryd.func63, Tryd.ntmps63
  go_wp2
  go_ret
  exact ⟨rfl, rfl⟩
set_option maxRecDepth 100000 in
theorem index_calls (w : World) (b o : Nat) (xs : List Int) (c g : Nat) (hr : At w b o (nums8 xs)) (hx : Byt xs) (hg : w.cell? ⟨g, 0, none⟩ = some (.int .u8 0)) :
    Calls Tryd.prog 64 #[.slice (some ⟨b, o, none⟩) xs.length c, .slice (some ⟨g, 0, none⟩) 1 1] w fun e w' => e = .returned (.int .i64 (idx0 xs)) ∧ w' = w := by
  have H := Lib.hid (indexByte_calls w b o xs c hr hx)
  clear hr hx
  generalize idx0 xs = r at *
  go_enter Tryd.func64, Tryd.ntmps64
  go_wp2_with fail
  refine H.out.mono ?_
  rintro e w' ⟨rfl, rfl⟩
  go_wp2
  go_ret
  exact ⟨rfl, rfl⟩
theorem take_splice {α : Type} (cur hd cs : List α) (off : Nat) (h : cur.take off = hd) (hl : hd.length = off) (_hf : off + cs.length ≤ cur.length) : (splice cur off cs).take (off + cs.length) = hd ++ cs := by
  unfold splice
  rw [h, ← List.append_assoc]
  exact List.take_left' (by rw [List.length_append, hl])
/-- The cells of a row of blk made by the call, so far filled with a beginning of the new text. -/
structure RepJ (w wr : World) (xs : List Int) (total s : Nat) : Prop where
  blk : ∃ cur : List Value, wr.heap[w.heap.size]? = some (.cells cur.toArray 5 (0, 0)) ∧ cur.length = total ∧ cur.take (esc (xs.take s)).length = nums8 (esc (xs.take s))
  below : Below w.heap.size w wr
theorem size8 : (Tryd.prog.info? 5).map (·.size) = some 1 := by kernel_rfl
theorem nums8_one (xs : List Int) : ∀ v ∈ nums8 xs, v.oneCell' = true := by
  intro v hv
  simp only [nums8, List.mem_map] at hv
  obtain ⟨x, _, rfl⟩ := hv
  rfl
def RepPost (w : World) (xs : List Int) (e : Ending) (w' : World) : Prop := ∃ A c, e = .returned (.slice A (esc xs).length c) ∧ Row w' A (nums8 (esc xs)) ∧ Below w.heap.size w w'
set_option maxRecDepth 100000 in
set_option maxHeartbeats 2000000 in
theorem replace_calls (w : World) (A : Option Addr) (xs : List Int) (c g g2 : Nat) (hr : Row w A (nums8 xs)) (hx : Byt xs) (hl : (esc xs).length ≤ 1099511627776) (hcap : xs.length ≤ c) (hg : w.cell? ⟨g, 0, none⟩ = some (.int .u8 0)) (hg0 : g < w.heap.size)
    (hh0 : w.cell? ⟨g2, 0, none⟩ = some (.int .u8 0)) (hh1 : w.cell? ⟨g2, 1, none⟩ = some (.int .u8 255)) (hg2 : g2 < w.heap.size) :
    Calls Tryd.prog 56 #[.slice A xs.length c, .slice (some ⟨g, 0, none⟩) 1 1, .slice (some ⟨g2, 0, none⟩) 2 2, .int .i64 (-1)] w (RepPost w xs) := by
  have hel := esc_len xs
  have hcnt := count_calls w A xs c g hr hx hg
  have HL := Lib.hid (show _ ∧ _ ∧ _ from ⟨hr, hx, hl⟩)
  have hn := esc_none xs
  by_cases hm : cnt0 xs = 0
  · have HE := Lib.hid (hn hm)
    have hxl : xs.length ≤ 1099511627776 := by omega
    rw [hm] at hcnt
    have HC := Lib.hid hcnt
    clear hcnt hr hx hl hel hn hm
    go_enter Tryd.func56, Tryd.ntmps56
    go_wp2_with fail
    refine HC.out.mono ?_
    rintro e w' ⟨rfl, rfl⟩
    go_wp2_with (((with_reducible refine gate_dst (N := 25) rfl ?_); go_loud (refine app_text rfl (.const (.slice none 0 0)) (.tmp 24) rfl w'.heap.size (.slice none 0 0) [] xs A xs.length c rfl rfl rfl (OwnB.nil _ _) HL.out.1 (by simp; omega) (Nat.le_refl _) ?_); intro v3 w3 ho3 hb3 _; have H3 := Lib.hid (show _ ∧ _ from ⟨ho3, hb3⟩); clear ho3 hb3))
    go_ret
    obtain ⟨A3, c3, rfl, hr3, _⟩ := H3.out.1.row
    refine ⟨A3, c3, ?_, ?_, H3.out.2⟩
    · rw [HE.out]; rfl
    · rw [HE.out]; exact hr3
  · have hm' : 0 < cnt0 xs := by omega
    obtain ⟨b, o, rfl, hblt, hcs⟩ := hr.get (by intro h; have := congrArg List.length h; simp only [nums8_length, List.length_nil] at this; have := cnt0_le xs; omega)
    have hat : At w b o (nums8 xs) := ⟨hblt, hcs⟩
    obtain ⟨m, hme⟩ : ∃ m, m = cnt0 xs := ⟨_, rfl⟩
    have hle := cnt0_le xs
    rw [← hme] at hcnt hel hm' hm hle
    have hmb : (m : Int) ≤ 1099511627776 := by omega
    have hxb : (xs.length : Int) ≤ 1099511627776 := by omega
    have hx1 : xs.length ≤ 9223372036854775807 := by omega
    have hm0 : (0 : Int) < m := by omega
    have hmz : ((m : Int) == 0) = false := by simp; omega
    have hmk := print_make (P := Tryd.prog) 24 5 .u8 1 Tryd.underlying24 info5 (by decide) (xs.length + m) (by omega)
    simp only [Int.natCast_add] at hmk
    obtain ⟨i0, hi, _, hsz, _⟩ := info_parts info5
    have HI := Lib.hid (show _ ∧ _ from ⟨hi, hsz⟩)
    have HC := Lib.hid (show _ ∧ _ ∧ _ ∧ _ ∧ _ ∧ _ from ⟨hcnt, hat, hx, hme, hel, hl⟩)
    have HG := Lib.hid (show _ ∧ _ ∧ _ ∧ _ ∧ _ from ⟨hg, hg0, hh0, hh1, hg2⟩)
    clear hcnt hat hx hme hel hl hr hcs hn hm hm' hi hsz hg hg0 hh0 hh1 hg2 HL hle
    go_enter Tryd.func56, Tryd.ntmps56
    go_wp2_with fail
    refine HC.out.1.mono ?_
    rintro e w' ⟨rfl, hw'⟩
    rw [hw']
    clear hw' w'
    go_wp2
    clear hmk
    go_loopw [11, 12, 49] (fun vw vs vr wr => ∃ (r s : Nat), (r : Int) ≤ m ∧ s ≤ xs.length ∧ vw = .int .i64 ((esc (xs.take s)).length : Nat) ∧ vs = .int .i64 s ∧ vr = .int .i64 r ∧ cnt0 (xs.drop s) + r = m ∧ RepJ w wr xs (xs.length + m) s) (fun _ _ vr _ => (m - intOf vr).toNat)
    case atStart =>
      refine ⟨0, 0, by omega, by omega, by simp [esc], rfl, rfl, by rw [List.drop_zero, HC.out.2.2.2.1]; rfl, ⟨⟨(madeCells #[.int .u8 0] (xs.length + m)).toList, ?_, ?_, by simp [esc, nums8]⟩, (Below.refl _ _).alloc (Nat.le_refl _) _⟩⟩
      · rw [blk_new]
      · rw [Array.length_toList, size_madeCells]
    case round =>
      obtain ⟨r, s, hrm, hs, rfl, rfl, rfl, hcr, hJ⟩ := hrel
      obtain ⟨⟨cur, hblk, hcl, htk⟩, hbel⟩ := hJ
      have hwp : (esc (xs.take s)).length ≤ (esc xs).length := esc_take xs s
      have htot := HC.out.2.2.2.2.1
      have hll := HC.out.2.2.2.2.2
      have hGl : w.heap.size < wr.heap.size := (Array.getElem?_eq_some_iff.1 hblk).1
      by_cases hlt : (r : Int) < m
      · obtain ⟨i, hix, hil, hdr, hz0, hz1⟩ := idx0_spec (xs.drop s) (by omega)
        have hseg : xs.take (s + i + 1) = xs.take s ++ ((xs.drop s).take i ++ [0]) := by
          have hil' : i < (xs.drop s).length := hil
          have h0 : (xs.drop s)[i] = 0 := by
            have h1 : (xs.drop s)[i]? = some 0 := by
              conv => lhs; rw [hdr]
              rw [List.getElem?_append_right (by rw [List.length_take]; omega), List.length_take, show i - min i (xs.drop s).length = 0 by omega]
              rfl
            rw [List.getElem?_eq_getElem hil'] at h1
            exact Option.some.inj h1
          rw [show s + i + 1 = s + (i + 1) by omega, List.take_add, List.take_succ_eq_append_getElem hil', h0]
        have hes : esc (xs.take (s + i + 1)) = esc (xs.take s) ++ (xs.drop s).take i ++ [0, 255] := by
          rw [hseg, esc_app, esc_app, esc_none _ hz0]
          simp [esc]
        have hes2 := esc_take xs (s + i + 1)
        have hsi : s + i + 1 ≤ xs.length := by rw [List.length_drop] at hil; omega
        have hd1 : (xs.drop s).drop (i + 1) = xs.drop (s + i + 1) := by rw [List.drop_drop]; congr 1
        rw [hd1] at hz1
        have hic := index_calls wr b (cutO o c s) (xs.drop s) (c - s) g (by rw [nums8_drop]; exact (HC.out.2.1.below hbel).drop c s (by rw [nums8_length]; exact hcap)) (HC.out.2.2.1.drop s) ((hbel.cell (p := ⟨g, 0, none⟩) HG.out.2.1).trans HG.out.1)
        rw [List.length_drop, hix] at hic
        obtain ⟨cs, hcse⟩ : ∃ cs, cs = nums8 ((xs.drop s).take i) := ⟨_, rfl⟩
        have hcsl : cs.length = i := by rw [hcse, nums8_length, List.length_take]; omega
        have hcso := nums8_one ((xs.drop s).take i)
        rw [← hcse] at hcso
        obtain ⟨wp, hwpe⟩ : ∃ wp, wp = (esc (xs.take s)).length := ⟨_, rfl⟩
        have hel2 : (esc (xs.take (s + i + 1))).length = wp + i + 2 := by
          rw [hes, List.length_append, List.length_append, List.length_take, ← hwpe]
          simp only [List.length_cons, List.length_nil]
          omega
        rw [hel2] at hes2
        rw [← hwpe] at hwp htk ⊢
        have hcsrc : ∀ j v, cs[j]? = some v → wr.cell? ((⟨b, o + s, none⟩ : Addr).add j) = some v := fun j v hv => by
          rw [add_plain0, Nat.add_assoc]
          have hjl := (List.getElem?_eq_some_iff.1 hv).1
          refine (HC.out.2.1.below hbel).2 (s + j) v ?_
          rw [hcse, nums8_take, nums8_drop, List.getElem?_take, if_pos (by omega), List.getElem?_drop] at hv
          exact hv
        have hwpb : (wp : Int) ≤ 2199023255552 := by omega
        have hib : (i : Int) ≤ 1099511627776 := by omega
        have hsb : (s : Int) + i + 1 ≤ xs.length := by omega
        have hsl : (s : Int) ≤ xs.length := by omega
        have hcut1 := cutFrom 24 5 Tryd.underlying24 HI.out.1 HI.out.2 (some ⟨b, o, none⟩) xs.length c (s : Int) s rfl hs
        rw [cutA_some] at hcut1
        have hcut2 := cutFrom 24 5 Tryd.underlying24 HI.out.1 HI.out.2 (some ⟨w.heap.size, 0, none⟩) (xs.length + m) (xs.length + m) (wp : Int) wp rfl (by omega)
        have hcut3 := cut_mid (P := Tryd.prog) 24 5 .i64 .i64 Tryd.underlying24 HI.out.1 1 HI.out.2 (some ⟨b, o, none⟩) xs.length c (s : Int) ((s : Int) + i) (by omega) (by omega) (by omega) hcap
        have hcut4 := cutFrom 24 5 Tryd.underlying24 HI.out.1 HI.out.2 (some ⟨w.heap.size, 0, none⟩) (xs.length + m) (xs.length + m) ((wp : Int) + i) (wp + i) (by omega) (by omega)
        rw [show ((s : Int) + i).toNat - (s : Int).toNat = i by omega, Int.toNat_natCast, Nat.mul_one, if_neg (show ¬ c = s by omega), Option.map_some, add_plain0] at hcut3
        have ec1 : cutO 0 (xs.length + m) wp = wp := by unfold cutO; rw [if_neg (by omega)]; omega
        have ec2 : cutO 0 (xs.length + m) (wp + i) = wp + i := by unfold cutO; rw [if_neg (by omega)]; omega
        rw [cutA_some, ec1] at hcut2
        rw [cutA_some, ec2] at hcut4
        clear ec1 ec2
        have hmin : cs.length = Nat.min i (xs.length + m - wp) := by rw [hcsl]; exact (Nat.min_eq_left (by omega)).symm
        have HIC := Lib.hid hic
        have HB := Lib.hid (show _ ∧ _ ∧ _ ∧ _ ∧ _ ∧ _ ∧ _ ∧ _ ∧ _ from ⟨hblk, hcl, htk, hbel, hcsrc, hcso, hwpe, hcsl, hmin⟩)
        have HE := Lib.hid (show _ ∧ _ ∧ _ ∧ _ ∧ _ ∧ _ from ⟨hes, hel2, hes2, hcse, hz1, hcr⟩)
        have HT := Lib.hid htot
        clear hic hblk hcl htk hbel hcsrc hcso hwpe hes hel2 hes2 hcse hz1 hcr hix hdr hz0 hseg hd1 hil htot hcsl hmin
        go_wp2_with fail
        refine HIC.out.mono ?_
        rintro e w' ⟨rfl, hw'⟩
        rw [hw']
        clear hw' w'
        go_upto_region 15 with (fail)
        go_region_law (refine step_copy_splice rfl (.tmp 61) (.tmp 65) 24 24 rfl 5 Tryd.underlying24 size8 (some ⟨w.heap.size, wp, none⟩) (some ⟨b, o + s, none⟩) (xs.length + m - wp) (xs.length + m - wp) i (c - s) (by simp [Act.eval, Act.put]) (by simp [Act.eval, Act.put]) w.heap.size wp cur 5 HB.out.1 cs HB.out.2.2.2.2.2.2.2.2 (fun _ => ⟨rfl, _, rfl, HB.out.2.2.2.2.1⟩) (by have := HB.out.2.1; have := HB.out.2.2.2.2.2.2.2.1; have := HE.out.2.2.1; have := HT.out; omega) HB.out.2.2.2.2.2.1 w.heap.size w HB.out.2.2.2.1.drew (Nat.le_refl _) ?_; intro w3 hg3 hb3; have hcsl := HB.out.2.2.2.2.2.2.2.1)
        obtain ⟨cur2, hcur2⟩ : ∃ cur2, cur2 = splice cur wp cs := ⟨_, rfl⟩
        rw [← hcur2] at hg3
        have hl2 : cur2.length = xs.length + m := by rw [hcur2, length_splice _ _ _ (by have := HB.out.2.1; have := HE.out.2.2.1; have := HT.out; omega)]; exact HB.out.2.1
        have htk2 : cur2.take (wp + i) = nums8 (esc (xs.take s) ++ (xs.drop s).take i) := by
          have := take_splice cur (nums8 (esc (xs.take s))) cs wp HB.out.2.2.1 (by rw [nums8_length]; exact HB.out.2.2.2.2.2.2.1.symm) (by have := HB.out.2.1; have := HE.out.2.2.1; have := HT.out; omega)
          rw [hcsl] at this
          rw [hcur2, this, HE.out.2.2.2.1, ← nums8_append]
        have H3 := Lib.hid (show _ ∧ _ ∧ _ ∧ _ from ⟨hg3.out, hb3, hl2, htk2⟩)
        clear hg3 hb3 hl2 htk2 hcur2
        have hs2 : ∀ j v, ([.int .u8 0, .int .u8 255] : List Value)[j]? = some v → w3.cell? ((⟨g2, 0, none⟩ : Addr).add j) = some v := fun j v hv => by
          rw [add_plain0, Nat.zero_add, H3.out.2.1.cell (p := ⟨g2, j, none⟩) HG.out.2.2.2.2]
          rcases j with _ | _ | j
          · have : Value.int .u8 0 = v := by simpa using hv
            rw [← this]; exact HG.out.2.2.1
          · have : Value.int .u8 255 = v := by simpa using hv
            rw [← this]; exact HG.out.2.2.2.1
          · simp at hv
        have hmin2 : ([.int .u8 0, .int .u8 255] : List Value).length = Nat.min 2 (xs.length + m - (wp + i)) := (Nat.min_eq_left (by have := HE.out.2.2.1; have := HT.out; show 2 ≤ xs.length + m - (wp + i); omega)).symm
        have hone2 : ∀ v ∈ ([.int .u8 0, .int .u8 255] : List Value), v.oneCell' = true := by
          intro v hv
          simp only [List.mem_cons, List.not_mem_nil, or_false] at hv
          rcases hv with rfl | rfl <;> rfl
        have HS2 := Lib.hid (show _ ∧ _ ∧ _ from ⟨hs2, hmin2, hone2⟩)
        clear hs2 hmin2 hone2
        go_wp2_with (((with_reducible refine gate_dst (N := 73) rfl ?_); go_loud (refine wpList_copy_splice rfl (.tmp 71) (.tmp 72) 24 24 rfl 5 Tryd.underlying24 size8 (some ⟨w.heap.size, wp + i, none⟩) (some ⟨g2, 0, none⟩) (xs.length + m - (wp + i)) (xs.length + m - (wp + i)) 2 2 rfl rfl w.heap.size (wp + i) cur2 5 H3.out.1 [.int .u8 0, .int .u8 255] HS2.out.2.1 (fun _ => ⟨rfl, _, rfl, HS2.out.1⟩) (by have := H3.out.2.2.1; have := HE.out.2.2.1; have := HT.out; simp; omega) HS2.out.2.2 w.heap.size w H3.out.2.1 (Nat.le_refl _) ?_); intro w4 hg4 hb4; have H4 := Lib.hid (show _ ∧ _ from ⟨hg4.out, hb4⟩); clear hg4 hb4))
        have hfin : RepJ w w4 xs (xs.length + m) (s + i + 1) := by
          refine ⟨⟨_, H4.out.1, ?_, ?_⟩, H4.out.2⟩
          · rw [length_splice _ _ _ (by have := H3.out.2.2.1; have := HE.out.2.2.1; have := HT.out; simp; omega)]
            exact H3.out.2.2.1
          · have := take_splice cur2 (nums8 (esc (xs.take s) ++ (xs.drop s).take i)) [.int .u8 0, .int .u8 255] (wp + i) H3.out.2.2.2 (by rw [nums8_length, List.length_append, List.length_take, List.length_drop, ← HB.out.2.2.2.2.2.2.1]; omega) (by have := H3.out.2.2.1; have := HE.out.2.2.1; have := HT.out; simp; omega)
            rw [HE.out.2.1, HE.out.1, nums8_append]
            exact this
        have HF := Lib.hid hfin
        clear hfin
        go_roundw
        case rel => exact ⟨r + 1, s + i + 1, by omega, by omega, by rw [HE.out.2.1]; go_num, by go_num, by go_num, by have := HE.out.2.2.2.2.1; have := HE.out.2.2.2.2.2; omega, HF.out⟩
        case measure => simp [intOf]; omega
      · have hz : cnt0 (xs.drop s) = 0 := by omega
        have hrm2 : (r : Int) = m := by omega
        have hes : esc xs = esc (xs.take s) ++ xs.drop s := by
          conv => lhs; rw [← List.take_append_drop s xs, esc_app, esc_none _ hz]
        obtain ⟨cs, hcse⟩ : ∃ cs, cs = nums8 (xs.drop s) := ⟨_, rfl⟩
        have hcsl : cs.length = xs.length - s := by rw [hcse, nums8_length, List.length_drop]
        have hcso := nums8_one (xs.drop s)
        rw [← hcse] at hcso
        obtain ⟨wp, hwpe⟩ : ∃ wp, wp = (esc (xs.take s)).length := ⟨_, rfl⟩
        have htl : wp + (xs.length - s) = xs.length + m := by
          have := congrArg List.length hes
          rw [List.length_append, List.length_drop, ← hwpe] at this
          omega
        rw [← hwpe] at hwp htk ⊢
        have hsl : (s : Int) ≤ xs.length := by omega
        have hwpb : (wp : Int) ≤ 2199023255552 := by omega
        have hcut2 := cutFrom 24 5 Tryd.underlying24 HI.out.1 HI.out.2 (some ⟨w.heap.size, 0, none⟩) (xs.length + m) (xs.length + m) (wp : Int) wp rfl (by omega)
        have hcut1 := cutFrom 24 5 Tryd.underlying24 HI.out.1 HI.out.2 (some ⟨b, o, none⟩) xs.length c (s : Int) s rfl hs
        have hcut3 := cut_mid (P := Tryd.prog) 24 5 .i64 .i64 Tryd.underlying24 HI.out.1 1 HI.out.2 (some ⟨w.heap.size, 0, none⟩) (xs.length + m) (xs.length + m) 0 ((wp : Int) + ((xs.length - s : Nat) : Int)) (by omega) (by omega) (by omega) (Nat.le_refl _)
        rw [show ((wp : Int) + ((xs.length - s : Nat) : Int)).toNat - (0 : Int).toNat = xs.length + m by omega] at hcut3
        rw [cutA_some] at hcut1 hcut2
        have hmin : cs.length = Nat.min (xs.length - s) (xs.length + m - wp) := by rw [hcsl]; exact (Nat.min_eq_left (by omega)).symm
        have hsrc : 0 < cs.length → some (⟨w.heap.size, cutO 0 (xs.length + m) wp, none⟩ : Addr) = some ⟨w.heap.size, wp, none⟩ ∧ ∃ ad, some (⟨b, cutO o c s, none⟩ : Addr) = some ad ∧ ∀ j v, cs[j]? = some v → wr.cell? (ad.add j) = some v := fun h0 => by
          refine ⟨?_, _, rfl, fun j v hv => ?_⟩
          · unfold cutO; rw [if_neg (by omega)]; simp
          · rw [add_plain0]
            refine ((HC.out.2.1.below hbel).drop c s (by rw [nums8_length]; exact hcap)).2 j v ?_
            rw [hcse, nums8_drop] at hv
            exact hv
        have hfit : wp + cs.length ≤ cur.length := by omega
        have hfull := take_splice cur (nums8 (esc (xs.take s))) cs wp htk (by rw [nums8_length]; exact hwpe.symm) hfit
        rw [hcsl, htl, hcse, ← nums8_append, ← hes] at hfull
        have hlf : (splice cur wp cs).length = xs.length + m := by rw [length_splice _ _ _ hfit]; exact hcl
        have HB := Lib.hid (show _ ∧ _ ∧ _ ∧ _ ∧ _ ∧ _ ∧ _ ∧ _ ∧ _ from ⟨hblk, hmin, hsrc, hfit, hcso, hbel, hfull, hlf, hcse⟩)
        have HT := Lib.hid htot
        have HCL := Lib.hid (show cs.length = xs.length - s from hcsl)
        have HTL := Lib.hid htl
        clear hblk hmin hsrc hfit hcso hbel hfull hlf hcse hz hes htk hcl hcr htot hwpe hcsl htl
        rw [hrm2] at hrm
        have HR := Lib.hid hrm2
        have hrge : ¬ ((r : Int) < m) := hlt
        clear hrm2
        go_wp2_with fail
        go_region_law (refine step_copy_splice rfl (.tmp 123) (.tmp 126) 24 24 rfl 5 Tryd.underlying24 size8 (some ⟨w.heap.size, cutO 0 (xs.length + m) wp, none⟩) (some ⟨b, cutO o c s, none⟩) (xs.length + m - wp) (xs.length + m - wp) (xs.length - s) (c - s) (by simp [Act.eval, Act.put]) (by simp [Act.eval, Act.put]) w.heap.size wp cur 5 HB.out.1 cs HB.out.2.1 HB.out.2.2.1 HB.out.2.2.2.1 HB.out.2.2.2.2.1 w.heap.size w HB.out.2.2.2.2.2.1.drew (Nat.le_refl _) ?_; intro w3 hg3 hb3; have hcsl := HCL.out)
        have H3 := Lib.hid (show _ ∧ _ from ⟨hg3.out, hb3⟩)
        clear hg3 hb3
        go_wp2
        go_ret
        have hlen : xs.length + m = (esc xs).length := HT.out.symm
        refine ⟨some ⟨w.heap.size, 0, none⟩, xs.length + m, ?_, ?_, H3.out.2⟩
        · rw [hlen]; rfl
        · refine .inr ⟨_, _, rfl, (Array.getElem?_eq_some_iff.1 H3.out.1).1, fun j v hv => ?_⟩
          rw [blk_cell H3.out.1]
          have h5 := HB.out.2.2.2.2.2.2.1
          rw [← HB.out.2.2.2.2.2.2.2.2] at h5
          rw [List.take_of_length_le (by rw [HB.out.2.2.2.2.2.2.2.1]; exact Nat.le_refl _)] at h5
          rw [h5, Nat.zero_add]
          simpa using hv
set_option maxRecDepth 100000 in
theorem replaceAll_calls (w : World) (A : Option Addr) (xs : List Int) (c g g2 : Nat) (hr : Row w A (nums8 xs)) (hx : Byt xs) (hl : (esc xs).length ≤ 1099511627776) (hcap : xs.length ≤ c) (hg : w.cell? ⟨g, 0, none⟩ = some (.int .u8 0)) (hg0 : g < w.heap.size)
    (hh0 : w.cell? ⟨g2, 0, none⟩ = some (.int .u8 0)) (hh1 : w.cell? ⟨g2, 1, none⟩ = some (.int .u8 255)) (hg2 : g2 < w.heap.size) :
    Calls Tryd.prog 48 #[.slice A xs.length c, .slice (some ⟨g, 0, none⟩) 1 1, .slice (some ⟨g2, 0, none⟩) 2 2] w (RepPost w xs) := by
  have H := Lib.hid (replace_calls w A xs c g g2 hr hx hl hcap hg hg0 hh0 hh1 hg2)
  clear hr hx hl hcap hg hg0 hh0 hh1 hg2
  go_enter Tryd.func48, Tryd.ntmps48
  go_wp2_with fail
  refine H.out.mono ?_
  rintro e w' ⟨A', c', rfl, hr, hb⟩
  have HP := Lib.hid (show _ ∧ _ from ⟨hr, hb⟩)
  clear hr hb
  go_wp2
  go_ret
  exact ⟨A', c', rfl, HP.out.1, HP.out.2⟩
end Go.Proofs.YtplfmpcoojkjlaaDoor
