/- append, and what it leaves where it moves. -/
import Derived.Test.YtplfmpcoojkjlaaDoorK71
namespace Go.Proofs.YtplfmpcoojkjlaaDoor
open Go.RowKit Go.Proofs.YtplfmpcoojkjlaaDoorW.PrintWords
theorem run_append_left (w : World) (base : Nat) (t ty e : TypeId) (i : TypeInfo) (z : Value) (size bytes : Nat) (ht : Tryd.prog.underlying t = some (.slice e)) (hi : Tryd.prog.info? e = some i) (hz : i.zero = some z)
    (hsize : i.size = size) (hby : i.bytes = bytes) (hzs : z.cells.size = size) (hsz : 0 < size) (v : Value) (n : Nat) (xs : List Value) (hown : w.ownsRow base e size v n xs)
    (a : Addr) (m c : Nat) (news : List Value) (hl : news.length = m * size) (hnews : ∀ j u, news[j]? = some u → w.cell? (a.add j) = some u) (h1 : ∀ u ∈ news, u.oneCell' = true)
    (h63 : n + m ≤ maxLen) (hbytes : (n + m) * bytes ≤ 140737488355328) (hbase : base ≤ w.heap.size) (hm : 0 < m) :
    ∃ v' w', (Builtin.append_ #[t, t] ty #[v, .slice (some a) m c]).run Tryd.prog w = .ok v' w' ∧ w'.ownsRow base e size v' (n + m) (xs ++ news) ∧ w.grownBy w' v.ownBlock ∧
      (v'.ownBlock = v.ownBlock ∨ (v'.ownBlock = some w.heap.size ∧ ∀ q, q < w.heap.size → w'.heap[q]? = w.heap[q]?)) := by
  obtain ⟨v', w', hr, h2, h3, _, h5⟩ := run_append_own_at (P := Tryd.prog) w base t ty e i z size bytes ht hi hz hsize hby hzs hsz v n xs hown a m c news hl hnews h1 h63 hbytes hbase
  refine ⟨v', w', hr, h2, h3, ?_⟩
  rcases h5 with h5 | h5
  · exact .inl h5
  subst hsize
  subst hby
  simp only [maxLen] at h63
  rcases hown.2 with ⟨rfl, rfl⟩ | ⟨g, cap, cur, rfl, hbg, hg, hnc, hcm, hcs, htake⟩
  · have hx : xs = [] := List.eq_nil_of_length_eq_zero (by simpa using hown.1)
    subst hx
    have hr2 := run_append_nil (P := Tryd.prog) w t ty e i z ht hi hz a m c news hl hnews (by omega) (by omega) (by have hb := hbytes; simp only [Nat.zero_add] at hb; omega)
    have hr3 := hr.symm.trans hr2
    injection hr3 with _ hw
    subst hw
    exact .inr ⟨h5, fun q hq => heap_alloc_old w.drew _ hq⟩
  · by_cases hroom : n + m ≤ cap
    · have hfit : n * i.size + news.length ≤ cur.size := by rw [hl, hcs, ← Nat.add_mul]; exact Nat.mul_le_mul_right _ hroom
      have hr2 := run_append_room (P := Tryd.prog) w t ty e i ht hi g n cap cur hg a m c news hl hnews h1 hroom hfit
      have hr3 := hr.symm.trans hr2
      injection hr3 with hv _
      subst hv
      exact .inl rfl
    · have hr2 := run_append_grow (P := Tryd.prog) w t ty e i z ht hi hz ⟨g, 0, none⟩ n cap xs hown.1 (hown.cells (g := g) rfl) a m c news hl hnews (by omega) (by omega) (growslice_fits (by omega) hbytes)
      have hr3 := hr.symm.trans hr2
      injection hr3 with _ hw
      subst hw
      exact .inr ⟨h5, fun q hq => heap_alloc_old w.drew _ hq⟩
set_option maxRecDepth 100000 in
/-- append(v, y) of a byte, v of the call's own: what is left where it moves. -/
theorem app_byteL {ops : Array Oper} {rest : List Oper} {o : Oper} {a : Act} {Q : Exit → Act → World → Prop} {W : World} (hgd : o.guard = none) (s x : Operand)
    (ho : o.op = .call { callee := .builtin .append, args := #[s, x], argTypes := #[24, 24] }) (base : Nat) (v : Value) (acc : List Int) (y : Int)
    (hs : a.eval s = v) (hx : a.eval x = .slice (some ⟨W.heap.size, 0, none⟩) 1 1) (own : OwnB W base v acc) (hl : acc.length + 1 ≤ 140737488355328) (hbase : base ≤ W.heap.size)
    (h : ∀ v1 w1, OwnB w1 base v1 (acc ++ [y]) → Below base W w1 → (∀ q, q < W.heap.size → (some q ≠ v.ownBlock ∨ v1.ownBlock ≠ v.ownBlock) → w1.heap[q]? = W.heap[q]?) → (v1.ownBlock = v.ownBlock ∨ ∃ b, v1.ownBlock = some b ∧ W.heap.size ≤ b) → wpList Tryd.prog ops Q rest (a.put o.dst v1) w1) :
    wpList Tryd.prog ops Q (o :: rest) a (W.alloc (.cells #[.int .u8 y] 5)) := by
  obtain ⟨i0, hi, hzz⟩ := Option.map_eq_some_iff.1 info5
  simp only [Prod.mk.injEq] at hzz
  obtain ⟨hz0, hz1, hz2⟩ := hzz
  have hsz : (W.alloc (.cells #[.int .u8 y] 5)).heap.size = W.heap.size + 1 := by simp
  have hb1 : Below W.heap.size W (W.alloc (.cells #[.int .u8 y] 5)) := (Below.refl _ _).alloc (Nat.le_refl _) _
  obtain ⟨v1, w1, hr, h2, h3, h4⟩ := run_append_left (W.alloc (.cells #[.int .u8 y] 5)) base 24 o.type 5 i0 _ 1 1 Tryd.underlying24 hi hz0 hz1 hz2 rfl (by omega) v acc.length (nums8 acc) (own_belowS own hb1) ⟨W.heap.size, 0, none⟩ 1 1 [.int .u8 y] rfl (by simpa using World.news_of_block (cs := #[.int .u8 y]) (t := 5) (fr := (0, 0)) (heap_alloc_new W (.cells #[.int .u8 y] 5))) (by intro u hu; rw [List.mem_singleton.1 hu]; rfl) (by simp only [maxLen]; omega) (by omega) (by omega) (by omega)
  refine wpList_plain hgd fun K hK => ?_
  unfold Oper.wp execOp
  simp only [ho, resolve, invoke, builtin, Sem.run_bind, Sem.run_pure, Result.andThen_ok, List.map_toArray, List.map_cons, List.map_nil, hs, hx, hr]
  have h2' : OwnB w1 base v1 (acc ++ [y]) := by
    unfold OwnB
    simpa [nums8] using h2
  refine hK _ _ (h v1 w1 h2' (((Below.refl base W).alloc hbase _).grown h3 (by omega) (own_base own)) (fun q hq hne => ?_) ?_)
  · have hq' : (W.alloc (.cells #[.int .u8 y] 5)).heap[q]? = W.heap[q]? := heap_alloc_old W _ hq
    rcases h4 with h4 | ⟨h4, h5⟩
    · rcases hne with hne | hne
      · exact (h3.block q (by omega) hne).trans hq'
      · exact absurd h4 hne
    · exact (h5 q (by omega)).trans hq'
  · rcases h4 with h4 | ⟨h4, _⟩
    · exact .inl h4
    · exact .inr ⟨_, h4, by omega⟩
end Go.Proofs.YtplfmpcoojkjlaaDoor
