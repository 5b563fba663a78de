/- The law SessApart. -/
import Derived.Test.YtcbafomhifdgpaaSsA
namespace Go.Proofs.Ytcbafomhifdgpaa.Ss
open Go.RowKit Mem Si Bits
set_option linter.unusedSimpArgs false
set_option linter.unusedVariables false
set_option maxRecDepth 100000

/-- Something that is done. -/
structure Ac where
  kind : Int
  id : Int
  seq : Int
abbrev acSh : Open.Sh := .st (.cat (.int .i64) (.cat (.int .i64) (.cat (.int .i64) .nil)))
def i64B (n : Int) : Prop := -9223372036854775808 ≤ n ∧ n ≤ 9223372036854775807
def AcOK (x : Ac) : Prop := i64B x.kind ∧ i64B x.id ∧ i64B x.seq
structure Cells3 (w : World) (b o : Nat) (x : Ac) : Prop where
  c0 : w.cell? ⟨b, o, none⟩ = some (.int .i64 x.kind)
  c1 : w.cell? ⟨b, o + 1, none⟩ = some (.int .i64 x.id)
  c2 : w.cell? ⟨b, o + 2, none⟩ = some (.int .i64 x.seq)
theorem Cells3.mod {w w' : World} {b o : Nat} {x : Ac} (h : Cells3 w b o x) (m : Mod w w' []) : Cells3 w' b o x := ⟨keepC m h.c0, keepC m h.c1, keepC m h.c2⟩
theorem ac_rd {w : World} {a : Value} (h : Open.Rd w (.sl acSh 24) [a]) : ∃ (l : List Ac) (ad : Option Addr) (cap : Nat), a = .slice ad l.length cap ∧ l.length ≤ 140737488351232 ∧ (∀ x ∈ l, AcOK x) ∧
    (l = [] ∨ ∃ b off, ad = some ⟨b, off, none⟩ ∧ ∀ i (hi : i < l.length), Cells3 w b (off + i * 3) l[i]) := by
  obtain ⟨v, rows, hv, ⟨ad, cap, rfl, hc1, hc2, hn, hpos, hcell⟩, hlen, hl1, hrd⟩ := h
  obtain rfl : a = _ := by simpa using hv
  obtain ⟨l, rfl, hl⟩ := Open.rows_map (rows := rows) (fun x : Ac => [Value.int .i64 x.kind, .int .i64 x.id, .int .i64 x.seq]) AcOK (fun r hr => by
    obtain ⟨x0, y0, rfl, ⟨n0, rfl, w0⟩, x1, y1, rfl, ⟨n1, rfl, w1⟩, x2, y2, rfl, ⟨n2, rfl, w2⟩, rfl⟩ := hrd r hr
    have p0 : i64B n0 := by simpa [i64B, Lit.wf, IntKind.min, IntKind.max, IntKind.signed, IntKind.bits] using w0
    have p1 : i64B n1 := by simpa [i64B, Lit.wf, IntKind.min, IntKind.max, IntKind.signed, IntKind.bits] using w1
    have p2 : i64B n2 := by simpa [i64B, Lit.wf, IntKind.min, IntKind.max, IntKind.signed, IntKind.bits] using w2
    exact ⟨⟨n0, n1, n2⟩, rfl, p0, p1, p2⟩)
  refine ⟨l, ad, cap, by simp, by simp at hlen; omega, hl, ?_⟩
  by_cases h0 : l = []
  · exact .inl h0
  · obtain ⟨b, off, rfl⟩ := hpos (by simpa using h0) (by decide)
    refine .inr ⟨b, off, rfl, fun i hi => ?_⟩
    have h := fun c hc => (hcell b off rfl i (by simpa using hi) c hc).1
    simp only [List.getElem_map] at h
    exact ⟨h 0 (by decide), h 1 (by decide), h 2 (by decide)⟩

theorem own_blk {w : World} {base : Nat} {v : Value} {l : List Sn} (h : RowsAt w base v l) {k : Nat} (hk : v.ownBlock = some k) : ∃ cur, Blk w k cur 107 := by
  obtain ⟨h0, ⟨rfl, h1⟩ | ⟨g, cap, cur, rfl, hg, hc, h2⟩⟩ := h
  · cases hk
  · simp only [Value.ownBlock, Option.some.injEq] at hk
    subst hk
    exact ⟨cur, hc⟩
theorem blk_ty {w : World} {k : Nat} {a b : Array Value} {t u : TypeId} (h : Blk w k a t) (h2 : Blk w k b u) : t = u := by
  unfold Blk at h h2
  rw [h] at h2
  injection h2 with h2
  injection h2 with _ h2
theorem own_far {w : World} {base : Nat} {v : Value} {l : List Sn} (h : RowsAt w base v l) {k : Nat} {a : Array Value} (hb : Blk w k a 101) : v.ownBlock ≠ some k := by
  intro hk
  obtain ⟨cur, hc⟩ := own_blk h hk
  exact absurd (blk_ty hc hb) (by decide)

/-- Two tables, apart, neither of the first world's. -/
def Two (w0 w : World) (t u : Nat) (lt lu : List Sn) : Prop :=
  Mod w0 w [] ∧ w0.heap.size ≤ t ∧ w0.heap.size ≤ u ∧ t ≠ u ∧ ∃ vt vu, TabAt w t vt lt ∧ TabAt w u vu lu ∧ ∀ k, vu.ownBlock = some k → vt.ownBlock ≠ some k
theorem Two.l {w0 w : World} {t u : Nat} {lt lu : List Sn} (h : Two w0 w t u lt lu) : ∃ v, TabAt w t v lt := by
  obtain ⟨_, _, _, _, vt, vu, h4, _⟩ := h
  exact ⟨vt, h4⟩
theorem Two.r {w0 w : World} {t u : Nat} {lt lu : List Sn} (h : Two w0 w t u lt lu) : ∃ v, TabAt w u v lu := by
  obtain ⟨_, _, _, _, vt, vu, _, h5, _⟩ := h
  exact ⟨vu, h5⟩
theorem bytes_inj {a b : ByteArray} (h : a.toList = b.toList) : a = b := by
  rw [ByteArray.toList_eq, ByteArray.toList_eq] at h
  exact ByteArray.ext (Array.ext' h)
theorem Two.symm {w0 w : World} {t u : Nat} {lt lu : List Sn} (h : Two w0 w t u lt lu) : Two w0 w u t lu lt := by
  obtain ⟨hm, h1, h2, h3, vt, vu, h4, h5, h6⟩ := h
  exact ⟨hm, h2, h1, h3.symm, vu, vt, h5, h4, fun k hk hk2 => h6 k hk2 hk⟩
theorem Two.mod {w0 w w' : World} {t u : Nat} {lt lu : List Sn} (h : Two w0 w t u lt lu) (m : Mod w w' []) : Two w0 w' t u lt lu := by
  obtain ⟨hm, h1, h2, h3, vt, vu, h4, h5, h6⟩ := h
  exact ⟨hm.trans0 m, h1, h2, h3, vt, vu, h4.mod m (by simp) (by simp), h5.mod m (by simp) (by simp), h6⟩
theorem Two.call {w0 w : World} {t u : Nat} {lt lu lt' : List Sn} {f : Nat} {args : Array Value} {r : Value} (h : Two w0 w t u lt lu) (C : ∀ vt, TabAt w t vt lt → Calls Try.prog f args w fun e w' => e = .returned r ∧ TabP t vt lt' w w') :
    Calls Try.prog f args w fun e w' => e = .returned r ∧ Two w0 w' t u lt' lu := by
  obtain ⟨hm, h1, h2, h3, vt, vu, h4, h5, h6⟩ := h
  refine (C vt h4).mono ?_
  rintro e w' ⟨rfl, vt', h7, hm2, h8⟩
  have hmem : ∀ r, r ∈ t :: vt.ownBlock.toList → r = t ∨ vt.ownBlock = some r := fun r hr => by
    rcases List.mem_cons.1 hr with h | h
    · exact .inl h
    · exact .inr (by simpa using h)
  refine ⟨rfl, hm.trans hm2 (fun r hr => .inr ?_), h1, h2, h3, vt', vu, h7, h5.mod hm2 (fun hr => ?_) (fun k hk hr => ?_), fun k hk hk2 => ?_⟩
  · rcases hmem r hr with rfl | h
    · exact h1
    · have := (h4.own r h).1; omega
  · rcases hmem u hr with h | h
    · exact h3 h.symm
    · exact own_far h4.2 h5.1 h
  · rcases hmem k hr with h | h
    · subst h; exact own_far h5.2 h4.1 hk
    · exact h6 k hk h
  · rcases h8 k hk2 with h | h
    · exact h6 k hk h
    · have := (h5.own k hk).2; omega

def stepA (l : List Sn) (x : Ac) : List Sn := takeL (openL l x.id).1 x.id x.seq
def runA (xs : List Ac) (k : Nat) : List Sn := (xs.take k).foldl stepA []
theorem runA_succ (xs : List Ac) (k : Nat) (hk : k < xs.length) : runA xs (k + 1) = stepA (runA xs k) xs[k] := by
  unfold runA
  rw [List.take_succ_eq_append_getElem hk, List.foldl_append]; rfl
theorem good_step {l : List Sn} (h : Good l) (x : Ac) : Good (stepA l x) := good_take (good_open h _) _ _
theorem good_run (xs : List Ac) (k : Nat) : Good (runA xs k) := by
  unfold runA
  generalize xs.take k = m
  have : ∀ (m : List Ac) (l : List Sn), Good l → Good (m.foldl stepA l) := by
    intro m
    induction m with
    | nil => intro l h; exact h
    | cons x m ih => intro l h; exact ih _ (good_step h x)
  exact this m [] Good.nil

set_option maxHeartbeats 4000000 in
theorem sessApart_calls (w : World) (a : Value) (ha : Open.Rd w (.sl acSh 24) [a]) (b : Value) (hb : Open.Rd w (.sl acSh 24) [b]) :
    Calls Try.prog 7 #[a, b] w fun e w' => e = .returned (.bool true) ∧ Below w.heap.size w w' := by
  obtain ⟨xs, ad, acap, rfl, hal, hax, hac⟩ := ac_rd ha
  obtain ⟨ys, bd, bcap, rfl, hbl, hbx, hbc⟩ := ac_rd hb
  have AW := Lib.hid awake_calls
  have NW := Lib.hid new_calls
  have NT : Hid (Two w ((w.alloc (.cells #[.slice none 0 0] 101)).alloc (.cells #[.slice none 0 0] 101)) w.heap.size (w.heap.size + 1) [] []) := Lib.hid (by
    refine ⟨((Mod.refl w []).alloc _).alloc _, Nat.le_refl _, by omega, by omega, .slice none 0 0, .slice none 0 0, (new_tab w).mod ((Mod.refl _ []).alloc _) (by simp) (by simp), ?_, fun k hk => by cases hk⟩
    have h := new_tab (w.alloc (.cells #[.slice none 0 0] 101))
    rw [World.size_alloc] at h
    exact h)
  have O := Lib.hid (fun (t : Nat) (l : List Sn) (id : Int) (hl : Good l) (vt : Value) w h => open_calls t vt l id w h (by have := hl.len; omega) hl.up)
  have K := Lib.hid (fun (t : Nat) (l : List Sn) (id seq : Int) (hl : Good l) (vt : Value) w h => take_calls t vt l id seq w h (by have := hl.len; omega) hl.up)
  have X := Lib.hid (fun (t : Nat) (l : List Sn) (hl : Good l) (vt : Value) w h => text_calls t vt l w h (by have := hl.len; omega) hl.sb)
  have AL := Lib.hid (fun (t : Nat) (l : List Sn) (hl : Good l) (vt : Value) w h => all_calls t vt l w h (by have := hl.len; omega))
  have HAC := Lib.hid hac
  have HBC := Lib.hid hbc
  have hal' : (xs.length : Int) ≤ 140737488351232 := by omega
  have hbl' : (ys.length : Int) ≤ 140737488351232 := by omega
  have hsz : (w.alloc (.cells #[.slice none 0 0] 101)).heap.size = w.heap.size + 1 := World.size_alloc _ _
  clear ha hb hac hbc hax hbx
  go_enter Try.func7, Try.ntmps7
  go_wp2_with fail
  (with_reducible refine (NW.out _).mono ?_)
  rintro e w1 ⟨rfl, hw1⟩
  rw [← hw1] at NT hsz
  clear hw1
  go_wp2_with fail
  (with_reducible refine (NW.out _).mono ?_)
  rintro e w2 ⟨rfl, hw2⟩
  rw [← hw2] at NT
  rw [hsz]
  clear hw2 hsz
  go_wp2_with fail
  (with_reducible refine (AW.out _).mono ?_)
  rintro e w3 ⟨rfl, hm3⟩
  have HT3 := Lib.hid (NT.out.mod hm3)
  clear hm3 NT
  go_wp2_with fail
  go_loopw [7] (fun vi wr => ∃ i : Nat, i ≤ xs.length ∧ i ≤ 60 ∧ vi = .int .i64 (i : Int) ∧ Two w wr w.heap.size (w.heap.size + 1) (runA xs i) []) (fun vi _ => 61 - (intOf vi).toNat)
  case atStart => exact ⟨0, Nat.zero_le _, by omega, rfl, HT3.out⟩
  case round =>
    obtain ⟨i, hi, hi6, rfl, htw⟩ := hrel
    have HT := Lib.hid htw
    clear htw HT3
    by_cases hgo : i < xs.length ∧ i < 60
    · obtain ⟨hlt, h60⟩ := hgo
      have hlt' : (i : Int) < xs.length := by omega
      have h60' : (i : Int) < 60 := by omega
      obtain ⟨bb, off, rfl, hc⟩ := HAC.out.resolve_left (fun h => by rw [h] at hlt; simp at hlt)
      have HC := Lib.hid (hc i hlt)
      have HS := Lib.hid (runA_succ xs i hlt)
      have HG := Lib.hid (good_run xs i)
      clear hc
      generalize xs[i]'hlt = x at *
      generalize runA xs i = l at *
      obtain ⟨xk, x1, x2⟩ := x
      have HL : Hid (runA xs (i + 1) = takeL (openL l x1).1 x1 x2) := Lib.hid HS.out
      have hcw := HC.out.mod HT.out.1
      have c1 := hcw.c1
      clear hcw HS
      simp only at c1
      go_wp2_with fail
      (with_reducible refine (HT.out.call (fun vt h => O.out _ l x1 HG.out vt _ h)).mono ?_)
      rintro e w4 ⟨rfl, ht4⟩
      have HT4 := Lib.hid ht4
      have HG4 := Lib.hid (good_open HG.out x1)
      clear ht4 HT c1 HG
      generalize openL l x1 = l1 at *
      go_wp2_with fail
      refine Fx.wp_region_f [11] (fun m w' => Two w w' w.heap.size (w.heap.size + 1) (if m = 0 then l1.1 else takeL l1.1 x1 x2) []) (by kernel_rfl) (by decide) (HT4.out.mod (Mod.refl _ _).drew) ?_
      have hSS : ∀ (m' : Nat) w', Two w w' w.heap.size (w.heap.size + 1) (if m' = 0 then l1.1 else takeL l1.1 x1 x2) [] → _ := fun m' w' h => (⟨(HC.out.mod h.1).c1, (HC.out.mod h.1).c2⟩ : _ ∧ _)
      refine Fx.take (i := 0) (v := ?_) _ rfl (by kernel_rfl) (by kernel_rfl) (by rfl) hSS ?_ ?_
      rotate_left
      · (intro w' hSw; (try dsimp only at hSw); go_simp; first | done | with_reducible rfl)
      try simp only [List.getElem_toArray, List.getElem_cons_succ, List.getElem_cons_zero, Act.put, List.setIfInBounds_toArray, List.set_cons_zero, List.set_cons_succ]
      refine Fx.take (i := 1) (v := ?_) _ rfl (by kernel_rfl) (by kernel_rfl) (by rfl) hSS ?_ ?_
      rotate_left
      · (intro w' hSw; (try dsimp only at hSw); go_simp; first | done | with_reducible rfl)
      try simp only [List.getElem_toArray, List.getElem_cons_succ, List.getElem_cons_zero, Act.put, List.setIfInBounds_toArray, List.set_cons_zero, List.set_cons_succ]
      refine Fx.take (i := 2) (v := ?_) _ rfl (by kernel_rfl) (by kernel_rfl) (by rfl) hSS ?_ ?_
      rotate_left
      · (intro w' hSw; (try dsimp only at hSw); go_simp; first | done | with_reducible rfl)
      try simp only [List.getElem_toArray, List.getElem_cons_succ, List.getElem_cons_zero, Act.put, List.setIfInBounds_toArray, List.set_cons_zero, List.set_cons_succ]
      refine Fx.take (i := 3) (v := ?_) _ rfl (by kernel_rfl) (by kernel_rfl) (by rfl) hSS ?_ ?_
      rotate_left
      · (intro w' hSw; (try dsimp only at hSw); go_simp; first | done | with_reducible rfl)
      try simp only [List.getElem_toArray, List.getElem_cons_succ, List.getElem_cons_zero, Act.put, List.setIfInBounds_toArray, List.set_cons_zero, List.set_cons_succ]
      refine Fx.take (i := 4) (v := ?_) _ rfl (by kernel_rfl) (by kernel_rfl) (by rfl) hSS ?_ ?_
      rotate_left
      · (intro w' hSw; (try dsimp only at hSw); go_simp; first | done | with_reducible rfl)
      try simp only [List.getElem_toArray, List.getElem_cons_succ, List.getElem_cons_zero, Act.put, List.setIfInBounds_toArray, List.set_cons_zero, List.set_cons_succ]
      refine Fx.take (i := 5) (v := ?_) _ rfl (by kernel_rfl) (by kernel_rfl) (by rfl) hSS ?_ ?_
      rotate_left
      · (intro w' hSw; (try dsimp only at hSw); go_simp; first | done | with_reducible rfl)
      try simp only [List.getElem_toArray, List.getElem_cons_succ, List.getElem_cons_zero, Act.put, List.setIfInBounds_toArray, List.set_cons_zero, List.set_cons_succ]
      refine Fx.take (i := 6) (v := ?_) _ rfl (by kernel_rfl) (by kernel_rfl) (by rfl) hSS ?_ ?_
      rotate_left
      · (intro w' hSw; (try dsimp only at hSw); go_simp; first | done | with_reducible rfl)
      try simp only [List.getElem_toArray, List.getElem_cons_succ, List.getElem_cons_zero, Act.put, List.setIfInBounds_toArray, List.set_cons_zero, List.set_cons_succ]
      refine Fx.take (i := 7) (v := ?_) _ rfl (by kernel_rfl) (by kernel_rfl) (by rfl) hSS ?_ ?_
      rotate_left
      · (intro w' hSw; (try dsimp only at hSw); go_simp; first | done | with_reducible rfl)
      try simp only [List.getElem_toArray, List.getElem_cons_succ, List.getElem_cons_zero, Act.put, List.setIfInBounds_toArray, List.set_cons_zero, List.set_cons_succ]
      refine Fx.take (i := 8) (v := ?_) _ rfl (by kernel_rfl) (by kernel_rfl) (by rfl) hSS ?_ ?_
      rotate_left
      · (intro w' hSw; (try dsimp only at hSw); go_simp; first | done | with_reducible rfl)
      try simp only [List.getElem_toArray, List.getElem_cons_succ, List.getElem_cons_zero, Act.put, List.setIfInBounds_toArray, List.set_cons_zero, List.set_cons_succ]
      refine Fx.take (i := 9) (v := ?_) _ rfl (by kernel_rfl) (by kernel_rfl) (by rfl) hSS ?_ ?_
      rotate_left
      · (intro w' hSw; (try dsimp only at hSw); go_simp; first | done | with_reducible rfl)
      try simp only [List.getElem_toArray, List.getElem_cons_succ, List.getElem_cons_zero, Act.put, List.setIfInBounds_toArray, List.set_cons_zero, List.set_cons_succ]
      refine Fx.take (i := 10) (v := ?_) _ rfl (by kernel_rfl) (by kernel_rfl) (by rfl) hSS ?_ ?_
      rotate_left
      · (intro w' hSw; (try dsimp only at hSw); go_simp; first | done | with_reducible rfl)
      try simp only [List.getElem_toArray, List.getElem_cons_succ, List.getElem_cons_zero, Act.put, List.setIfInBounds_toArray, List.set_cons_zero, List.set_cons_succ]
      refine Fx.eff' (i := 11) 0 rfl (by kernel_rfl) (by kernel_rfl) (by rfl) (by kernel_rfl) (by kernel_rfl) ?_
      apply Exists.intro
      apply Exists.intro
      apply Exists.intro
      refine ⟨?_, ?_, ?_⟩
      · (intro w'; go_simp; first | done | (refine ⟨?_, ?_⟩ <;> with_reducible rfl) | with_reducible rfl)
      · (exact fun w' h => h.call (fun vt h => K.out _ l1.1 x1 x2 HG4.out vt _ h))
      try simp only [List.getElem_toArray, List.getElem_cons_succ, List.getElem_cons_zero, Act.put, List.setIfInBounds_toArray, List.set_cons_zero, List.set_cons_succ]
      refine Fx.done 1 (by kernel_rfl) (by kernel_rfl) (fun w5 hC => ?_)
      rw [if_neg (by decide), ← HL.out] at hC
      have HT5 := Lib.hid hC
      clear hC hSS
      go_wp2_with fail
      go_roundw
      case rel => exact ⟨i + 1, by omega, by omega, by go_num, HT5.out⟩
      case measure => simp [intOf]; omega
    · have hgd : (decide ((i : Int) < xs.length) && decide ((i : Int) < 60)) = false := by
        rw [Bool.and_eq_false_iff, decide_eq_false_iff_not, decide_eq_false_iff_not]; omega
      have HG := Lib.hid (good_run xs i)
      generalize runA xs i = la at *
      by_cases hlt : i < xs.length
      · have hlt' : (i : Int) < xs.length := by omega
        have h60' : (60 : Int) ≤ i := by omega
        go_wp2_with fail
        go_loopw [8] (fun vi wr => ∃ j : Nat, j ≤ ys.length ∧ j ≤ 60 ∧ vi = .int .i64 (j : Int) ∧ Two w wr w.heap.size (w.heap.size + 1) la (runA ys j)) (fun vi _ => 61 - (intOf vi).toNat)
        case atStart => exact ⟨0, Nat.zero_le _, by omega, rfl, HT.out⟩
        case round =>
          obtain ⟨j, hj, hj6, rfl, htw⟩ := hrel
          have HT2 := Lib.hid htw
          clear htw HT
          by_cases hgo2 : j < ys.length ∧ j < 60
          · obtain ⟨hjt, h62⟩ := hgo2
            have hjt' : (j : Int) < ys.length := by omega
            have h62' : (j : Int) < 60 := by omega
            obtain ⟨bb, off, rfl, hc⟩ := HBC.out.resolve_left (fun h => by rw [h] at hjt; simp at hjt)
            have HC := Lib.hid (hc j hjt)
            have HS := Lib.hid (runA_succ ys j hjt)
            have HG2 := Lib.hid (good_run ys j)
            clear hc
            generalize ys[j]'hjt = x at *
            generalize runA ys j = l at *
            obtain ⟨xk, x1, x2⟩ := x
            have HL : Hid (runA ys (j + 1) = takeL (openL l x1).1 x1 x2) := Lib.hid HS.out
            have hcw := HC.out.mod HT2.out.1
            have c1 := hcw.c1
            clear hcw HS
            simp only at c1
            go_wp2_with fail
            (with_reducible refine (HT2.out.symm.call (fun vt h => O.out _ l x1 HG2.out vt _ h)).mono ?_)
            rintro e w4 ⟨rfl, ht4⟩
            have HT4 := Lib.hid ht4
            have HG4 := Lib.hid (good_open HG2.out x1)
            clear ht4 HT2 c1 HG2
            generalize openL l x1 = l1 at *
            go_wp2_with fail
            refine Fx.wp_region_f [11] (fun m w' => Two w w' (w.heap.size + 1) w.heap.size (if m = 0 then l1.1 else takeL l1.1 x1 x2) la) (by kernel_rfl) (by decide) (HT4.out.mod (Mod.refl _ _).drew) ?_
            have hSS : ∀ (m' : Nat) w', Two w w' (w.heap.size + 1) w.heap.size (if m' = 0 then l1.1 else takeL l1.1 x1 x2) la → _ := fun m' w' h => (⟨(HC.out.mod h.1).c1, (HC.out.mod h.1).c2⟩ : _ ∧ _)
            refine Fx.take (i := 0) (v := ?_) _ rfl (by kernel_rfl) (by kernel_rfl) (by rfl) hSS ?_ ?_
            rotate_left
            · (intro w' hSw; (try dsimp only at hSw); go_simp; first | done | with_reducible rfl)
            try simp only [List.getElem_toArray, List.getElem_cons_succ, List.getElem_cons_zero, Act.put, List.setIfInBounds_toArray, List.set_cons_zero, List.set_cons_succ]
            refine Fx.take (i := 1) (v := ?_) _ rfl (by kernel_rfl) (by kernel_rfl) (by rfl) hSS ?_ ?_
            rotate_left
            · (intro w' hSw; (try dsimp only at hSw); go_simp; first | done | with_reducible rfl)
            try simp only [List.getElem_toArray, List.getElem_cons_succ, List.getElem_cons_zero, Act.put, List.setIfInBounds_toArray, List.set_cons_zero, List.set_cons_succ]
            refine Fx.take (i := 2) (v := ?_) _ rfl (by kernel_rfl) (by kernel_rfl) (by rfl) hSS ?_ ?_
            rotate_left
            · (intro w' hSw; (try dsimp only at hSw); go_simp; first | done | with_reducible rfl)
            try simp only [List.getElem_toArray, List.getElem_cons_succ, List.getElem_cons_zero, Act.put, List.setIfInBounds_toArray, List.set_cons_zero, List.set_cons_succ]
            refine Fx.take (i := 3) (v := ?_) _ rfl (by kernel_rfl) (by kernel_rfl) (by rfl) hSS ?_ ?_
            rotate_left
            · (intro w' hSw; (try dsimp only at hSw); go_simp; first | done | with_reducible rfl)
            try simp only [List.getElem_toArray, List.getElem_cons_succ, List.getElem_cons_zero, Act.put, List.setIfInBounds_toArray, List.set_cons_zero, List.set_cons_succ]
            refine Fx.take (i := 4) (v := ?_) _ rfl (by kernel_rfl) (by kernel_rfl) (by rfl) hSS ?_ ?_
            rotate_left
            · (intro w' hSw; (try dsimp only at hSw); go_simp; first | done | with_reducible rfl)
            try simp only [List.getElem_toArray, List.getElem_cons_succ, List.getElem_cons_zero, Act.put, List.setIfInBounds_toArray, List.set_cons_zero, List.set_cons_succ]
            refine Fx.take (i := 5) (v := ?_) _ rfl (by kernel_rfl) (by kernel_rfl) (by rfl) hSS ?_ ?_
            rotate_left
            · (intro w' hSw; (try dsimp only at hSw); go_simp; first | done | with_reducible rfl)
            try simp only [List.getElem_toArray, List.getElem_cons_succ, List.getElem_cons_zero, Act.put, List.setIfInBounds_toArray, List.set_cons_zero, List.set_cons_succ]
            refine Fx.take (i := 6) (v := ?_) _ rfl (by kernel_rfl) (by kernel_rfl) (by rfl) hSS ?_ ?_
            rotate_left
            · (intro w' hSw; (try dsimp only at hSw); go_simp; first | done | with_reducible rfl)
            try simp only [List.getElem_toArray, List.getElem_cons_succ, List.getElem_cons_zero, Act.put, List.setIfInBounds_toArray, List.set_cons_zero, List.set_cons_succ]
            refine Fx.take (i := 7) (v := ?_) _ rfl (by kernel_rfl) (by kernel_rfl) (by rfl) hSS ?_ ?_
            rotate_left
            · (intro w' hSw; (try dsimp only at hSw); go_simp; first | done | with_reducible rfl)
            try simp only [List.getElem_toArray, List.getElem_cons_succ, List.getElem_cons_zero, Act.put, List.setIfInBounds_toArray, List.set_cons_zero, List.set_cons_succ]
            refine Fx.take (i := 8) (v := ?_) _ rfl (by kernel_rfl) (by kernel_rfl) (by rfl) hSS ?_ ?_
            rotate_left
            · (intro w' hSw; (try dsimp only at hSw); go_simp; first | done | with_reducible rfl)
            try simp only [List.getElem_toArray, List.getElem_cons_succ, List.getElem_cons_zero, Act.put, List.setIfInBounds_toArray, List.set_cons_zero, List.set_cons_succ]
            refine Fx.take (i := 9) (v := ?_) _ rfl (by kernel_rfl) (by kernel_rfl) (by rfl) hSS ?_ ?_
            rotate_left
            · (intro w' hSw; (try dsimp only at hSw); go_simp; first | done | with_reducible rfl)
            try simp only [List.getElem_toArray, List.getElem_cons_succ, List.getElem_cons_zero, Act.put, List.setIfInBounds_toArray, List.set_cons_zero, List.set_cons_succ]
            refine Fx.take (i := 10) (v := ?_) _ rfl (by kernel_rfl) (by kernel_rfl) (by rfl) hSS ?_ ?_
            rotate_left
            · (intro w' hSw; (try dsimp only at hSw); go_simp; first | done | with_reducible rfl)
            try simp only [List.getElem_toArray, List.getElem_cons_succ, List.getElem_cons_zero, Act.put, List.setIfInBounds_toArray, List.set_cons_zero, List.set_cons_succ]
            refine Fx.eff' (i := 11) 0 rfl (by kernel_rfl) (by kernel_rfl) (by rfl) (by kernel_rfl) (by kernel_rfl) ?_
            apply Exists.intro
            apply Exists.intro
            apply Exists.intro
            refine ⟨?_, ?_, ?_⟩
            · (intro w'; go_simp; first | done | (refine ⟨?_, ?_⟩ <;> with_reducible rfl) | with_reducible rfl)
            · (exact fun w' h => h.call (fun vt h => K.out _ l1.1 x1 x2 HG4.out vt _ h))
            try simp only [List.getElem_toArray, List.getElem_cons_succ, List.getElem_cons_zero, Act.put, List.setIfInBounds_toArray, List.set_cons_zero, List.set_cons_succ]
            refine Fx.done 1 (by kernel_rfl) (by kernel_rfl) (fun w5 hC => ?_)
            rw [if_neg (by decide), ← HL.out] at hC
            have HT5 := Lib.hid hC.symm
            clear hC hSS
            go_wp2_with fail
            go_roundw
            case rel => exact ⟨j + 1, by omega, by omega, by go_num, HT5.out⟩
            case measure => simp [intOf]; omega
          · have HG2 := Lib.hid (good_run ys j)
            generalize runA ys j = lb at *
            have hfin : ∃ B : Bool, ((txt la).toList == (txt lb).toList) = B ∧ decide (la = lb) = B := by
              by_cases he : la = lb
              · exact ⟨true, by rw [he]; simp, decide_eq_true he⟩
              · refine ⟨false, ?_, decide_eq_false he⟩
                rw [beq_eq_false_iff_ne]
                intro h
                exact he (txt_inj HG.out.sb HG2.out.sb (by have := HG.out.len; omega) (by have := HG2.out.len; omega) (bytes_inj h))
            obtain ⟨B, hB1, hB2⟩ := hfin
            have HB2 := Lib.hid hB2
            clear hB2
            by_cases hjt : j < ys.length
            · have hjt' : (j : Int) < ys.length := by omega
              have h62' : (60 : Int) ≤ j := by omega
              go_wp2_with fail
              obtain ⟨vt, hvt⟩ := HT2.out.l
              (with_reducible refine (X.out _ la HG.out vt _ hvt).mono ?_)
              clear hvt
              rintro e v1 ⟨rfl, hn1⟩
              have HT3 := Lib.hid (HT2.out.mod hn1)
              clear hn1 HT2
              go_wp2_with fail
              obtain ⟨vt, hvt⟩ := HT3.out.r
              (with_reducible refine (X.out _ lb HG2.out vt _ hvt).mono ?_)
              clear hvt
              rintro e v2 ⟨rfl, hn2⟩
              have HT4 := Lib.hid (HT3.out.mod hn2)
              clear hn2 HT3
              go_wp2_with fail
              obtain ⟨vt, hvt⟩ := HT4.out.l
              (with_reducible refine (AL.out _ la HG.out vt _ hvt).mono ?_)
              clear hvt
              rintro e v3 ⟨ra, rfl, hn3, hra⟩
              have HT5 := Lib.hid (HT4.out.mod hn3)
              have RC := Lib.hid (refs_calls _ ra la v3 hra (by have := HG.out.len; omega))
              obtain ⟨ra1, ra2, rfl⟩ := Rw.own_slice hra
              clear hn3 HT4 hra
              go_wp2_with fail
              (with_reducible refine RC.out.mono ?_)
              rintro e v4 ⟨rb, rfl, hn4, hrb⟩
              have HT6 := Lib.hid (HT5.out.mod hn4)
              have HRB := Lib.hid hrb
              obtain ⟨rb1, rb2, rfl⟩ := Rw.own_slice hrb
              clear hn4 HT5 hrb RC
              go_wp2_with fail
              obtain ⟨vt, hvt⟩ := HT6.out.r
              (with_reducible refine (AL.out _ lb HG2.out vt _ hvt).mono ?_)
              clear hvt
              rintro e v5 ⟨rc, rfl, hn5, hrc⟩
              have HT7 := Lib.hid (HT6.out.mod hn5)
              have HRB5 := Lib.hid (HRB.out.mod hn5 (by simp))
              have RC := Lib.hid (refs_calls _ rc lb v5 hrc (by have := HG2.out.len; omega))
              obtain ⟨rc1, rc2, rfl⟩ := Rw.own_slice hrc
              clear hn5 HT6 hrc HRB
              go_wp2_with fail
              (with_reducible refine RC.out.mono ?_)
              rintro e v6 ⟨rd, rfl, hn6, hrd⟩
              have HT8 := Lib.hid (HT7.out.mod hn6)
              have SC := Lib.hid (same_calls _ _ _ rd la lb v6 (HRB5.out.mod hn6 (by simp)) hrd (by have := HG.out.len; omega) (by have := HG2.out.len; omega))
              rw [HB2.out] at SC
              obtain ⟨rd1, rd2, rfl⟩ := Rw.own_slice hrd
              clear hn6 HT7 hrd HRB5 RC
              go_wp2_with fail
              (with_reducible refine SC.out.mono ?_)
              rintro e v7 ⟨rfl, hn7⟩
              have HT9 := Lib.hid (HT8.out.mod hn7)
              clear hn7 HT8
              go_wp2_with fail
              go_ret
              exact ⟨ret_bool (by simp), HT9.out.1.below0⟩
            · have hjt' : (ys.length : Int) ≤ j := by omega
              go_wp2_with fail
              obtain ⟨vt, hvt⟩ := HT2.out.l
              (with_reducible refine (X.out _ la HG.out vt _ hvt).mono ?_)
              clear hvt
              rintro e v1 ⟨rfl, hn1⟩
              have HT3 := Lib.hid (HT2.out.mod hn1)
              clear hn1 HT2
              go_wp2_with fail
              obtain ⟨vt, hvt⟩ := HT3.out.r
              (with_reducible refine (X.out _ lb HG2.out vt _ hvt).mono ?_)
              clear hvt
              rintro e v2 ⟨rfl, hn2⟩
              have HT4 := Lib.hid (HT3.out.mod hn2)
              clear hn2 HT3
              go_wp2_with fail
              obtain ⟨vt, hvt⟩ := HT4.out.l
              (with_reducible refine (AL.out _ la HG.out vt _ hvt).mono ?_)
              clear hvt
              rintro e v3 ⟨ra, rfl, hn3, hra⟩
              have HT5 := Lib.hid (HT4.out.mod hn3)
              have RC := Lib.hid (refs_calls _ ra la v3 hra (by have := HG.out.len; omega))
              obtain ⟨ra1, ra2, rfl⟩ := Rw.own_slice hra
              clear hn3 HT4 hra
              go_wp2_with fail
              (with_reducible refine RC.out.mono ?_)
              rintro e v4 ⟨rb, rfl, hn4, hrb⟩
              have HT6 := Lib.hid (HT5.out.mod hn4)
              have HRB := Lib.hid hrb
              obtain ⟨rb1, rb2, rfl⟩ := Rw.own_slice hrb
              clear hn4 HT5 hrb RC
              go_wp2_with fail
              obtain ⟨vt, hvt⟩ := HT6.out.r
              (with_reducible refine (AL.out _ lb HG2.out vt _ hvt).mono ?_)
              clear hvt
              rintro e v5 ⟨rc, rfl, hn5, hrc⟩
              have HT7 := Lib.hid (HT6.out.mod hn5)
              have HRB5 := Lib.hid (HRB.out.mod hn5 (by simp))
              have RC := Lib.hid (refs_calls _ rc lb v5 hrc (by have := HG2.out.len; omega))
              obtain ⟨rc1, rc2, rfl⟩ := Rw.own_slice hrc
              clear hn5 HT6 hrc HRB
              go_wp2_with fail
              (with_reducible refine RC.out.mono ?_)
              rintro e v6 ⟨rd, rfl, hn6, hrd⟩
              have HT8 := Lib.hid (HT7.out.mod hn6)
              have SC := Lib.hid (same_calls _ _ _ rd la lb v6 (HRB5.out.mod hn6 (by simp)) hrd (by have := HG.out.len; omega) (by have := HG2.out.len; omega))
              rw [HB2.out] at SC
              obtain ⟨rd1, rd2, rfl⟩ := Rw.own_slice hrd
              clear hn6 HT7 hrd HRB5 RC
              go_wp2_with fail
              (with_reducible refine SC.out.mono ?_)
              rintro e v7 ⟨rfl, hn7⟩
              have HT9 := Lib.hid (HT8.out.mod hn7)
              clear hn7 HT8
              go_wp2_with fail
              go_ret
              exact ⟨ret_bool (by simp), HT9.out.1.below0⟩
      · have hlt' : (xs.length : Int) ≤ i := by omega
        go_wp2_with fail
        go_loopw [8] (fun vi wr => ∃ j : Nat, j ≤ ys.length ∧ j ≤ 60 ∧ vi = .int .i64 (j : Int) ∧ Two w wr w.heap.size (w.heap.size + 1) la (runA ys j)) (fun vi _ => 61 - (intOf vi).toNat)
        case atStart => exact ⟨0, Nat.zero_le _, by omega, rfl, HT.out⟩
        case round =>
          obtain ⟨j, hj, hj6, rfl, htw⟩ := hrel
          have HT2 := Lib.hid htw
          clear htw HT
          by_cases hgo2 : j < ys.length ∧ j < 60
          · obtain ⟨hjt, h62⟩ := hgo2
            have hjt' : (j : Int) < ys.length := by omega
            have h62' : (j : Int) < 60 := by omega
            obtain ⟨bb, off, rfl, hc⟩ := HBC.out.resolve_left (fun h => by rw [h] at hjt; simp at hjt)
            have HC := Lib.hid (hc j hjt)
            have HS := Lib.hid (runA_succ ys j hjt)
            have HG2 := Lib.hid (good_run ys j)
            clear hc
            generalize ys[j]'hjt = x at *
            generalize runA ys j = l at *
            obtain ⟨xk, x1, x2⟩ := x
            have HL : Hid (runA ys (j + 1) = takeL (openL l x1).1 x1 x2) := Lib.hid HS.out
            have hcw := HC.out.mod HT2.out.1
            have c1 := hcw.c1
            clear hcw HS
            simp only at c1
            go_wp2_with fail
            (with_reducible refine (HT2.out.symm.call (fun vt h => O.out _ l x1 HG2.out vt _ h)).mono ?_)
            rintro e w4 ⟨rfl, ht4⟩
            have HT4 := Lib.hid ht4
            have HG4 := Lib.hid (good_open HG2.out x1)
            clear ht4 HT2 c1 HG2
            generalize openL l x1 = l1 at *
            go_wp2_with fail
            refine Fx.wp_region_f [11] (fun m w' => Two w w' (w.heap.size + 1) w.heap.size (if m = 0 then l1.1 else takeL l1.1 x1 x2) la) (by kernel_rfl) (by decide) (HT4.out.mod (Mod.refl _ _).drew) ?_
            have hSS : ∀ (m' : Nat) w', Two w w' (w.heap.size + 1) w.heap.size (if m' = 0 then l1.1 else takeL l1.1 x1 x2) la → _ := fun m' w' h => (⟨(HC.out.mod h.1).c1, (HC.out.mod h.1).c2⟩ : _ ∧ _)
            refine Fx.take (i := 0) (v := ?_) _ rfl (by kernel_rfl) (by kernel_rfl) (by rfl) hSS ?_ ?_
            rotate_left
            · (intro w' hSw; (try dsimp only at hSw); go_simp; first | done | with_reducible rfl)
            try simp only [List.getElem_toArray, List.getElem_cons_succ, List.getElem_cons_zero, Act.put, List.setIfInBounds_toArray, List.set_cons_zero, List.set_cons_succ]
            refine Fx.take (i := 1) (v := ?_) _ rfl (by kernel_rfl) (by kernel_rfl) (by rfl) hSS ?_ ?_
            rotate_left
            · (intro w' hSw; (try dsimp only at hSw); go_simp; first | done | with_reducible rfl)
            try simp only [List.getElem_toArray, List.getElem_cons_succ, List.getElem_cons_zero, Act.put, List.setIfInBounds_toArray, List.set_cons_zero, List.set_cons_succ]
            refine Fx.take (i := 2) (v := ?_) _ rfl (by kernel_rfl) (by kernel_rfl) (by rfl) hSS ?_ ?_
            rotate_left
            · (intro w' hSw; (try dsimp only at hSw); go_simp; first | done | with_reducible rfl)
            try simp only [List.getElem_toArray, List.getElem_cons_succ, List.getElem_cons_zero, Act.put, List.setIfInBounds_toArray, List.set_cons_zero, List.set_cons_succ]
            refine Fx.take (i := 3) (v := ?_) _ rfl (by kernel_rfl) (by kernel_rfl) (by rfl) hSS ?_ ?_
            rotate_left
            · (intro w' hSw; (try dsimp only at hSw); go_simp; first | done | with_reducible rfl)
            try simp only [List.getElem_toArray, List.getElem_cons_succ, List.getElem_cons_zero, Act.put, List.setIfInBounds_toArray, List.set_cons_zero, List.set_cons_succ]
            refine Fx.take (i := 4) (v := ?_) _ rfl (by kernel_rfl) (by kernel_rfl) (by rfl) hSS ?_ ?_
            rotate_left
            · (intro w' hSw; (try dsimp only at hSw); go_simp; first | done | with_reducible rfl)
            try simp only [List.getElem_toArray, List.getElem_cons_succ, List.getElem_cons_zero, Act.put, List.setIfInBounds_toArray, List.set_cons_zero, List.set_cons_succ]
            refine Fx.take (i := 5) (v := ?_) _ rfl (by kernel_rfl) (by kernel_rfl) (by rfl) hSS ?_ ?_
            rotate_left
            · (intro w' hSw; (try dsimp only at hSw); go_simp; first | done | with_reducible rfl)
            try simp only [List.getElem_toArray, List.getElem_cons_succ, List.getElem_cons_zero, Act.put, List.setIfInBounds_toArray, List.set_cons_zero, List.set_cons_succ]
            refine Fx.take (i := 6) (v := ?_) _ rfl (by kernel_rfl) (by kernel_rfl) (by rfl) hSS ?_ ?_
            rotate_left
            · (intro w' hSw; (try dsimp only at hSw); go_simp; first | done | with_reducible rfl)
            try simp only [List.getElem_toArray, List.getElem_cons_succ, List.getElem_cons_zero, Act.put, List.setIfInBounds_toArray, List.set_cons_zero, List.set_cons_succ]
            refine Fx.take (i := 7) (v := ?_) _ rfl (by kernel_rfl) (by kernel_rfl) (by rfl) hSS ?_ ?_
            rotate_left
            · (intro w' hSw; (try dsimp only at hSw); go_simp; first | done | with_reducible rfl)
            try simp only [List.getElem_toArray, List.getElem_cons_succ, List.getElem_cons_zero, Act.put, List.setIfInBounds_toArray, List.set_cons_zero, List.set_cons_succ]
            refine Fx.take (i := 8) (v := ?_) _ rfl (by kernel_rfl) (by kernel_rfl) (by rfl) hSS ?_ ?_
            rotate_left
            · (intro w' hSw; (try dsimp only at hSw); go_simp; first | done | with_reducible rfl)
            try simp only [List.getElem_toArray, List.getElem_cons_succ, List.getElem_cons_zero, Act.put, List.setIfInBounds_toArray, List.set_cons_zero, List.set_cons_succ]
            refine Fx.take (i := 9) (v := ?_) _ rfl (by kernel_rfl) (by kernel_rfl) (by rfl) hSS ?_ ?_
            rotate_left
            · (intro w' hSw; (try dsimp only at hSw); go_simp; first | done | with_reducible rfl)
            try simp only [List.getElem_toArray, List.getElem_cons_succ, List.getElem_cons_zero, Act.put, List.setIfInBounds_toArray, List.set_cons_zero, List.set_cons_succ]
            refine Fx.take (i := 10) (v := ?_) _ rfl (by kernel_rfl) (by kernel_rfl) (by rfl) hSS ?_ ?_
            rotate_left
            · (intro w' hSw; (try dsimp only at hSw); go_simp; first | done | with_reducible rfl)
            try simp only [List.getElem_toArray, List.getElem_cons_succ, List.getElem_cons_zero, Act.put, List.setIfInBounds_toArray, List.set_cons_zero, List.set_cons_succ]
            refine Fx.eff' (i := 11) 0 rfl (by kernel_rfl) (by kernel_rfl) (by rfl) (by kernel_rfl) (by kernel_rfl) ?_
            apply Exists.intro
            apply Exists.intro
            apply Exists.intro
            refine ⟨?_, ?_, ?_⟩
            · (intro w'; go_simp; first | done | (refine ⟨?_, ?_⟩ <;> with_reducible rfl) | with_reducible rfl)
            · (exact fun w' h => h.call (fun vt h => K.out _ l1.1 x1 x2 HG4.out vt _ h))
            try simp only [List.getElem_toArray, List.getElem_cons_succ, List.getElem_cons_zero, Act.put, List.setIfInBounds_toArray, List.set_cons_zero, List.set_cons_succ]
            refine Fx.done 1 (by kernel_rfl) (by kernel_rfl) (fun w5 hC => ?_)
            rw [if_neg (by decide), ← HL.out] at hC
            have HT5 := Lib.hid hC.symm
            clear hC hSS
            go_wp2_with fail
            go_roundw
            case rel => exact ⟨j + 1, by omega, by omega, by go_num, HT5.out⟩
            case measure => simp [intOf]; omega
          · have HG2 := Lib.hid (good_run ys j)
            generalize runA ys j = lb at *
            have hfin : ∃ B : Bool, ((txt la).toList == (txt lb).toList) = B ∧ decide (la = lb) = B := by
              by_cases he : la = lb
              · exact ⟨true, by rw [he]; simp, decide_eq_true he⟩
              · refine ⟨false, ?_, decide_eq_false he⟩
                rw [beq_eq_false_iff_ne]
                intro h
                exact he (txt_inj HG.out.sb HG2.out.sb (by have := HG.out.len; omega) (by have := HG2.out.len; omega) (bytes_inj h))
            obtain ⟨B, hB1, hB2⟩ := hfin
            have HB2 := Lib.hid hB2
            clear hB2
            by_cases hjt : j < ys.length
            · have hjt' : (j : Int) < ys.length := by omega
              have h62' : (60 : Int) ≤ j := by omega
              go_wp2_with fail
              obtain ⟨vt, hvt⟩ := HT2.out.l
              (with_reducible refine (X.out _ la HG.out vt _ hvt).mono ?_)
              clear hvt
              rintro e v1 ⟨rfl, hn1⟩
              have HT3 := Lib.hid (HT2.out.mod hn1)
              clear hn1 HT2
              go_wp2_with fail
              obtain ⟨vt, hvt⟩ := HT3.out.r
              (with_reducible refine (X.out _ lb HG2.out vt _ hvt).mono ?_)
              clear hvt
              rintro e v2 ⟨rfl, hn2⟩
              have HT4 := Lib.hid (HT3.out.mod hn2)
              clear hn2 HT3
              go_wp2_with fail
              obtain ⟨vt, hvt⟩ := HT4.out.l
              (with_reducible refine (AL.out _ la HG.out vt _ hvt).mono ?_)
              clear hvt
              rintro e v3 ⟨ra, rfl, hn3, hra⟩
              have HT5 := Lib.hid (HT4.out.mod hn3)
              have RC := Lib.hid (refs_calls _ ra la v3 hra (by have := HG.out.len; omega))
              obtain ⟨ra1, ra2, rfl⟩ := Rw.own_slice hra
              clear hn3 HT4 hra
              go_wp2_with fail
              (with_reducible refine RC.out.mono ?_)
              rintro e v4 ⟨rb, rfl, hn4, hrb⟩
              have HT6 := Lib.hid (HT5.out.mod hn4)
              have HRB := Lib.hid hrb
              obtain ⟨rb1, rb2, rfl⟩ := Rw.own_slice hrb
              clear hn4 HT5 hrb RC
              go_wp2_with fail
              obtain ⟨vt, hvt⟩ := HT6.out.r
              (with_reducible refine (AL.out _ lb HG2.out vt _ hvt).mono ?_)
              clear hvt
              rintro e v5 ⟨rc, rfl, hn5, hrc⟩
              have HT7 := Lib.hid (HT6.out.mod hn5)
              have HRB5 := Lib.hid (HRB.out.mod hn5 (by simp))
              have RC := Lib.hid (refs_calls _ rc lb v5 hrc (by have := HG2.out.len; omega))
              obtain ⟨rc1, rc2, rfl⟩ := Rw.own_slice hrc
              clear hn5 HT6 hrc HRB
              go_wp2_with fail
              (with_reducible refine RC.out.mono ?_)
              rintro e v6 ⟨rd, rfl, hn6, hrd⟩
              have HT8 := Lib.hid (HT7.out.mod hn6)
              have SC := Lib.hid (same_calls _ _ _ rd la lb v6 (HRB5.out.mod hn6 (by simp)) hrd (by have := HG.out.len; omega) (by have := HG2.out.len; omega))
              rw [HB2.out] at SC
              obtain ⟨rd1, rd2, rfl⟩ := Rw.own_slice hrd
              clear hn6 HT7 hrd HRB5 RC
              go_wp2_with fail
              (with_reducible refine SC.out.mono ?_)
              rintro e v7 ⟨rfl, hn7⟩
              have HT9 := Lib.hid (HT8.out.mod hn7)
              clear hn7 HT8
              go_wp2_with fail
              go_ret
              exact ⟨ret_bool (by simp), HT9.out.1.below0⟩
            · have hjt' : (ys.length : Int) ≤ j := by omega
              go_wp2_with fail
              obtain ⟨vt, hvt⟩ := HT2.out.l
              (with_reducible refine (X.out _ la HG.out vt _ hvt).mono ?_)
              clear hvt
              rintro e v1 ⟨rfl, hn1⟩
              have HT3 := Lib.hid (HT2.out.mod hn1)
              clear hn1 HT2
              go_wp2_with fail
              obtain ⟨vt, hvt⟩ := HT3.out.r
              (with_reducible refine (X.out _ lb HG2.out vt _ hvt).mono ?_)
              clear hvt
              rintro e v2 ⟨rfl, hn2⟩
              have HT4 := Lib.hid (HT3.out.mod hn2)
              clear hn2 HT3
              go_wp2_with fail
              obtain ⟨vt, hvt⟩ := HT4.out.l
              (with_reducible refine (AL.out _ la HG.out vt _ hvt).mono ?_)
              clear hvt
              rintro e v3 ⟨ra, rfl, hn3, hra⟩
              have HT5 := Lib.hid (HT4.out.mod hn3)
              have RC := Lib.hid (refs_calls _ ra la v3 hra (by have := HG.out.len; omega))
              obtain ⟨ra1, ra2, rfl⟩ := Rw.own_slice hra
              clear hn3 HT4 hra
              go_wp2_with fail
              (with_reducible refine RC.out.mono ?_)
              rintro e v4 ⟨rb, rfl, hn4, hrb⟩
              have HT6 := Lib.hid (HT5.out.mod hn4)
              have HRB := Lib.hid hrb
              obtain ⟨rb1, rb2, rfl⟩ := Rw.own_slice hrb
              clear hn4 HT5 hrb RC
              go_wp2_with fail
              obtain ⟨vt, hvt⟩ := HT6.out.r
              (with_reducible refine (AL.out _ lb HG2.out vt _ hvt).mono ?_)
              clear hvt
              rintro e v5 ⟨rc, rfl, hn5, hrc⟩
              have HT7 := Lib.hid (HT6.out.mod hn5)
              have HRB5 := Lib.hid (HRB.out.mod hn5 (by simp))
              have RC := Lib.hid (refs_calls _ rc lb v5 hrc (by have := HG2.out.len; omega))
              obtain ⟨rc1, rc2, rfl⟩ := Rw.own_slice hrc
              clear hn5 HT6 hrc HRB
              go_wp2_with fail
              (with_reducible refine RC.out.mono ?_)
              rintro e v6 ⟨rd, rfl, hn6, hrd⟩
              have HT8 := Lib.hid (HT7.out.mod hn6)
              have SC := Lib.hid (same_calls _ _ _ rd la lb v6 (HRB5.out.mod hn6 (by simp)) hrd (by have := HG.out.len; omega) (by have := HG2.out.len; omega))
              rw [HB2.out] at SC
              obtain ⟨rd1, rd2, rfl⟩ := Rw.own_slice hrd
              clear hn6 HT7 hrd HRB5 RC
              go_wp2_with fail
              (with_reducible refine SC.out.mono ?_)
              rintro e v7 ⟨rfl, hn7⟩
              have HT9 := Lib.hid (HT8.out.mod hn7)
              clear hn7 HT8
              go_wp2_with fail
              go_ret
              exact ⟨ret_bool (by simp), HT9.out.1.below0⟩
end Go.Proofs.Ytcbafomhifdgpaa.Ss
