/- slices.Insert at []api.Session: at the end; where there is no room; all roads as one contract. -/
import Derived.Test.YtcbafomhifdgpaaSi2
import Derived.Shelf.Spec.SlicesInsertGrow
namespace Go.Proofs.Ytcbafomhifdgpaa.Si
open Go.RowKit Mem
set_option linter.unusedSimpArgs false
set_option linter.unusedVariables false
set_option maxRecDepth 100000

theorem put_end (xs r : List Value) (o : Nat) (h : xs.length = o) : put xs o r = xs ++ r := by
  subst h
  simp [put]

theorem two_cells {w : World} {vb : Nat} {x y : Value} {t : TypeId} (h : Blk w vb #[x, y] t) : ∀ j u, ([x, y] : List Value)[j]? = some u → w.cell? ((⟨vb, 0, none⟩ : Addr).add j) = some u := by
  intro j u hj
  rw [Addr.add_lit, Nat.zero_add, h.cell]
  match j, hj with
  | 0, hj => simpa using hj
  | 1, hj => simpa using hj
  | j + 2, hj => simp at hj

/-- Where append's row lies: in place, or in a new block. -/
theorem app_where {w : World} {base : Nat} {t ty e : TypeId} {i : TypeInfo} {z : Value} {size bytes : Nat} (ht : Try.prog.underlying t = some (.slice e)) (hi : Try.prog.info? e = some i) (hz : i.zero = some z)
    (hsize : i.size = size) (hby : i.bytes = bytes) (hsz : 0 < size)
    {v : Value} {n : Nat} {xs : List Value} (hown : w.ownsRow base e size v n xs)
    {a : Addr} {m c : Nat} {news : List Value} (hl : news.length = m * size) (hnews : ∀ j u, news[j]? = some u → w.cell? (a.add j) = some u) (h1 : ∀ u ∈ news, u.oneCell' = true) (hm : m ≠ 0)
    (h63 : n + m ≤ maxLen) (hbytes : (n + m) * bytes ≤ 140737488355328) {v' : Value} {w' : World} (hr : (Builtin.append_ #[t, t] ty #[v, .slice (some a) m c]).run Try.prog w = .ok v' w') :
    ∀ k, v'.ownBlock = some k → v.ownBlock = some k ∨ w.heap.size ≤ k := by
  subst hsize
  subst hby
  have hsmall : n + m ≤ 9223372036854775807 := by simp only [maxLen] at h63; omega
  intro k hk
  rcases hown.2 with ⟨rfl, rfl⟩ | ⟨g, cap, cur, rfl, hbg, hg, hnc, hcm, hcs, htake⟩
  · have h := run_append_nil (P := Try.prog) w t ty e i z ht hi hz a m c news hl hnews (by omega) (by omega) (by have hb := hbytes; simp only [Nat.zero_add] at hb; omega)
    rw [h] at hr
    injection hr with h1 h2
    subst h1
    simp only [Value.ownBlock, Option.some.injEq] at hk
    exact .inr (by omega)
  · by_cases hroom : n + m ≤ cap
    · have hfit : n * i.size + news.length ≤ cur.size := by rw [hl, hcs, ← Nat.add_mul]; exact Nat.mul_le_mul_right _ hroom
      have h := run_append_room (P := Try.prog) w t ty e i ht hi g n cap cur hg a m c news hl hnews h1 hroom hfit
      rw [h] at hr
      injection hr with h1 h2
      subst h1
      exact .inl hk
    · have holds : ∀ j u, xs[j]? = some u → w.cell? ((⟨g, 0, none⟩ : Addr).add j) = some u := hown.cells (g := g) rfl
      have h := run_append_grow (P := Try.prog) w t ty e i z ht hi hz ⟨g, 0, none⟩ n cap xs hown.1 holds a m c news hl hnews (by omega) (by omega) (growslice_fits (by omega) hbytes)
      rw [h] at hr
      injection hr with h1 h2
      subst h1
      simp only [Value.ownBlock, Option.some.injEq] at hk
      exact .inr (by omega)

set_option maxHeartbeats 4000000 in
theorem ins_end (base vb n : Nat) (v : Value) (xs : List Value) (x y : Value) (w : World) (hown : w.ownsRow base 107 2 v n xs) (hbase : base ≤ w.heap.size) (hv : Blk w vb #[x, y] 107)
    (hn : n ≤ 1000) (hx1 : x.oneCell' = true) (hy1 : y.oneCell' = true) :
    Calls Try.prog 55 #[v, .int .i64 n, .slice (some ⟨vb, 0, none⟩) 1 1] w (InsP base v n n xs [x, y] w) := by
  obtain ⟨i0, hi0, hz0, hz1, hz2⟩ := info_parts info_sess
  have hxl := hown.1
  have hput := put_end xs [x, y] (n * 2) hxl
  have h2c := two_cells hv
  obtain ⟨a, c, hav⟩ := Rw.own_slice hown
  have hle : n ≤ c ∧ (a = none → n = 0 ∧ c = 0) ∧ (∀ b, a = some b → b.spot = none) := by
    rcases Rw.own_cellN hown with ⟨h, h', _⟩ | ⟨g, cap, h, h1, h2, h3, _⟩
    · rw [hav] at h; cases h; exact ⟨by omega, ⟨(fun _ => ⟨h', rfl⟩), (fun _ h => by cases h)⟩⟩
    · rw [hav] at h; cases h; exact ⟨h2, ⟨(fun h => by cases h), (fun b h => by cases h; rfl)⟩⟩
  subst hav
  unfold InsP
  rw [hput]
  have hc63 : c ≤ 9223372036854775807 := by
    rcases Rw.own_cellN hown with ⟨h, h', _⟩ | ⟨g, cap, h, h1, h2, h3, _⟩
    · cases h; omega
    · cases h; unfold maxLen at h3; omega
  obtain ⟨v', w1, hr, hown', hgrow, _⟩ := run_append_own (P := Try.prog) w base 57 57 107 i0 _ 2 16 Try.underlying57 hi0 hz0 hz1 hz2 rfl (by decide) _ _ _ hown ⟨vb, 0, none⟩ 1 1 [x, y] rfl h2c (by simp [hx1, hy1]) (by unfold maxLen; omega) (by omega) hbase
  have HW := Lib.hid (app_where (ty := 57) Try.underlying57 hi0 hz0 hz1 hz2 (by decide) hown (a := ⟨vb, 0, none⟩) (m := 1) (c := 1) (news := [x, y]) rfl h2c (by simp [hx1, hy1]) (by decide) (by unfold maxLen; omega) (by omega) hr)
  have HR := Lib.hid hr
  have HO1 := Lib.hid hown'
  have HG1 := Lib.hid hgrow
  clear hown hput h2c hv hr hown' hgrow
  cases a with
  | none =>
    obtain ⟨h0, h0'⟩ := hle.2.1 rfl
    subst h0
    subst h0'
    go_enter Try.func55, Try.ntmps55
    go_wp2_with (at_builtin; refine Lib.wpList_append_run _ rfl _ _ _ _ rfl _ _ rfl rfl _ _ HR.out ?_)
    go_ret
    exact ⟨v', rfl, HO1.out, HG1.out, HW.out⟩
  | some p =>
    obtain ⟨pb, po, ps⟩ := p
    have := hle.2.2 _ rfl
    simp only at this
    subst this
    have hle' : n ≤ c := hle.1
    clear hle
    go_enter Try.func55, Try.ntmps55
    go_wp2_with (at_builtin; refine Lib.wpList_append_run _ rfl _ _ _ _ rfl _ _ rfl rfl _ _ HR.out ?_)
    all_goals (go_ret; exact ⟨_, rfl, HO1.out, HG1.out, HW.out⟩)
end Go.Proofs.Ytcbafomhifdgpaa.Si
