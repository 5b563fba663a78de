/- The contract of Ref: an event as the document has it. -/
import Derived.Test.YtdmipmkgoefidaaEvC4
import Derived.Deep.RegionHeld3
import Derived.Deep.AppendLies
import Derived.Deep.DrawnRows
import Derived.Test.YtdmipmkgoefidaaHe
namespace Go.Proofs.Ytdmipmkgoefidaa.Ev
open Go.RowKit Mem Bits EvH
set_option linter.unusedSimpArgs false
set_option linter.unusedVariables false
set_option maxRecDepth 100000
attribute [local go_sem ↓] Go.wp_at_zero Go.wp_at_succ
/-- The cells of an owned row. -/
theorem own_cellN {w : World} {base : Nat} {e : TypeId} {size : Nat} {v : Value} {n : Nat} {xs : List Value} (h : w.ownsRow base e size v n xs) :
    (v = .slice none 0 0 ∧ n = 0 ∧ xs = []) ∨ ∃ g cap, v = .slice (some ⟨g, 0, none⟩) n cap ∧ base ≤ g ∧ n ≤ cap ∧ cap ≤ maxLen ∧ xs.length = n * size ∧ ∀ i (hi : i < xs.length), w.cell? ⟨g, i, none⟩ = some xs[i] := by
  obtain ⟨h0, ⟨rfl, h1⟩ | ⟨g, cap, cur, rfl, hg, hb, h2, h3, h4, h5⟩⟩ := h
  · left
    subst h1
    exact ⟨rfl, rfl, List.eq_nil_of_length_eq_zero (by omega)⟩
  · right
    refine ⟨g, cap, rfl, hg, h2, h3, h0, fun i hi => ?_⟩
    have hb' : Blk w g cur e := hb
    rw [hb'.cell]
    subst h5
    rw [List.getElem_take, Array.getElem_toList, Array.getElem?_eq_getElem]
theorem _root_.Go.Proofs.Ytdmipmkgoefidaa.Mem.Blk.grown {w w' : World} {g : Nat} {cs : Array Value} {t : TypeId} {row : Option Nat} (h : Blk w g cs t) (hg : w.grownBy w' row) (hne : some g ≠ row) : Blk w' g cs t := by
  have hl := h.lt
  unfold Blk at *; rw [hg.block g hl hne]; exact h
theorem keepC {a b : World} (m : Mod a b []) {p : Addr} {u : Value} (h : a.cell? p = some u) : b.cell? p = some u := (m.cell (cell_lt h) (by simp)).trans h
theorem keepG {a b : World} {row : Option Nat} (hg : a.grownBy b row) {p : Addr} {u : Value} (h : a.cell? p = some u) (hne : some p.block ≠ row) : b.cell? p = some u := (hg.cell_far p (cell_lt h) hne).trans h
theorem own_slice {w : World} {base : Nat} {e : TypeId} {size : Nat} {v : Value} {n : Nat} {xs : List Value} (h : w.ownsRow base e size v n xs) : ∃ a n c, v = .slice a n c := by
  rcases own_cellN h with ⟨rfl, _⟩ | ⟨g, cap, rfl, _⟩ <;> exact ⟨_, _, _, rfl⟩
def flatF (l : List Fld) : List Value := l.flatMap fldC
theorem flatF_len (l : List Fld) : (flatF l).length = l.length * 5 := by
  induction l with
  | nil => rfl
  | cons x l ih => unfold flatF at *; rw [List.flatMap_cons, List.length_append, ih]; simp [fldC]; omega
theorem flatF_snoc (l : List Fld) (x : Fld) : flatF (l ++ [x]) = flatF l ++ fldC x := by unfold flatF; simp
theorem flatF_get : ∀ (l : List Fld) (i c : Nat) (hi : i < l.length) (hc : c < 5), (flatF l)[i * 5 + c]? = (fldC l[i])[c]?
  | x :: l, 0, c, _, hc => by
    unfold flatF
    rw [List.flatMap_cons, Nat.zero_mul, Nat.zero_add, List.getElem?_append_left (by simpa [fldC] using hc)]; rfl
  | x :: l, i + 1, c, hi, hc => by
    have ih := flatF_get l i c (by simpa using hi) hc
    unfold flatF at *
    rw [List.flatMap_cons, List.getElem?_append_right (by simp [fldC]; omega)]
    rw [show (i + 1) * 5 + c - (fldC x).length = i * 5 + c by simp [fldC]; omega, ih]
    rfl
theorem flds_of_own {w : World} {base : Nat} {e : TypeId} {v : Value} {l : List Fld} (h : w.ownsRow base e 5 v l.length (flatF l)) : FldsAt w v l := by
  rcases own_cellN h with ⟨rfl, h1, h2⟩ | ⟨g, cap, rfl, _, h1, h2, h3, h4⟩
  · exact .inl ⟨List.eq_nil_of_length_eq_zero h1, none, 0, rfl⟩
  · refine .inr ⟨g, 0, cap, rfl, h1, fun i hi => ?_⟩
    have hc : ∀ c (hc : c < 5), w.cell? ⟨g, 0 + i * 5 + c, none⟩ = (fldC l[i])[c]? := by
      intro c hc
      have := h4 (i * 5 + c) (by rw [h3]; omega)
      rw [Nat.zero_add, this, ← flatF_get l i c hi hc, List.getElem?_eq_getElem]
    exact ⟨hc 0 (by omega), hc 1 (by omega), hc 2 (by omega), hc 3 (by omega), hc 4 (by omega)⟩

theorem info_field : (Try.prog.info? 64).map (fun i => (i.zero, i.size, i.bytes)) = some (some (.agg #[.string ⟨#[]⟩, .int .i64 0, .int .i64 0, .float .f64 0, .string ⟨#[]⟩]), 5, 56) := by kernel_rfl

set_option maxHeartbeats 4000000 in
theorem ref_calls (a b c : Int) (k : ByteArray) (sl : Value) (l : List Fld) (hn : l.length ≤ 1000000) (w : World) (hf : FldsAt w sl l) :
    Calls Try.prog 15 #[evV a b c k sl] w fun e w' => ∃ v, e = .returned (evV a b c k v) ∧ Mod w w' [] ∧ FldsAt w' v l := by
  have hn' : (l.length : Int) ≤ 1000000 := by omega
  have hb0 := ((Blk.new w #[.int .i64 a, .int .i64 b, .int .i64 c, .string k, sl] 24).alloc (.cells #[.int .i64 0, .int .i64 0, .int .i64 0, .string ⟨#[]⟩, .slice none 0 0] 32)).alloc (.cells #[.int .i64 a, .int .i64 b, .int .i64 c, .string k, .slice none 0 0] 32)
  have hb2 := Blk.new ((w.alloc (.cells #[.int .i64 a, .int .i64 b, .int .i64 c, .string k, sl] 24)).alloc (.cells #[.int .i64 0, .int .i64 0, .int .i64 0, .string ⟨#[]⟩, .slice none 0 0] 32)) #[.int .i64 a, .int .i64 b, .int .i64 c, .string k, .slice none 0 0] 32
  rw [World.size_alloc, World.size_alloc] at hb2
  have hm0 := (((Mod.refl w []).alloc (.cells #[.int .i64 a, .int .i64 b, .int .i64 c, .string k, sl] 24)).alloc (.cells #[.int .i64 0, .int .i64 0, .int .i64 0, .string ⟨#[]⟩, .slice none 0 0] 32)).alloc (.cells #[.int .i64 a, .int .i64 b, .int .i64 c, .string k, .slice none 0 0] 32)
  have HB0 := Lib.hid hb0
  have HB2 := Lib.hid hb2
  have hb1 := (Blk.new (w.alloc (.cells #[.int .i64 a, .int .i64 b, .int .i64 c, .string k, sl] 24)) #[.int .i64 0, .int .i64 0, .int .i64 0, .string ⟨#[]⟩, .slice none 0 0] 32).alloc (.cells #[.int .i64 a, .int .i64 b, .int .i64 c, .string k, .slice none 0 0] 32)
  rw [World.size_alloc] at hb1
  have HB1 := Lib.hid hb1
  clear hb1
  have HM0 := Lib.hid hm0
  have HF := Lib.hid hf
  clear hb0 hb2 hm0 hf
  obtain ⟨i0, hi, hz0, hz1, hz2⟩ := info_parts info_field
  rcases HF.out with ⟨hnil, a0, cap, hsl⟩ | ⟨bb, off, cap, hsl, hcap, hrow⟩
  · subst hsl hnil
    go_enter Try.func15, Try.ntmps15
    go_wp2_with fail
    go_loop [4] (fun v => v = .int .i64 0) (fun v => 0)
    case atStart => rfl
    case round =>
      subst hrel
      go_wp2_with fail
      refine bodyPost_ret (v := evV a b c k (.slice none 0 0)) (by simp [results, Try.results15, go_sem]) rfl ⟨_, rfl, ?_, .inl ⟨rfl, none, 0, rfl⟩⟩
      exact (((Mod.refl _ _).alloc _).alloc _).alloc _
  · subst hsl
    have HROW := Lib.hid hrow
    clear hrow
    go_enter Try.func15, Try.ntmps15
    go_wp2_with fail
    have HSZ : Hid (w.heap.size + 1 + 1 < (((w.alloc (.cells #[.int .i64 a, .int .i64 b, .int .i64 c, .string k, .slice (some ⟨bb, off, none⟩) l.length cap] 24)).alloc (.cells #[.int .i64 0, .int .i64 0, .int .i64 0, .string ⟨#[]⟩, .slice none 0 0] 32)).alloc (.cells #[.int .i64 a, .int .i64 b, .int .i64 c, .string k, .slice none 0 0] 32)).heap.size) := Lib.hid HB2.out.lt
    have HSZ2 : Hid ((((w.alloc (.cells #[.int .i64 a, .int .i64 b, .int .i64 c, .string k, .slice (some ⟨bb, off, none⟩) l.length cap] 24)).alloc (.cells #[.int .i64 0, .int .i64 0, .int .i64 0, .string ⟨#[]⟩, .slice none 0 0] 32)).alloc (.cells #[.int .i64 a, .int .i64 b, .int .i64 c, .string k, .slice none 0 0] 32)).heap.size ≤ w.heap.size + 1 + 1 + 1) := Lib.hid (by simp)
    generalize ((w.alloc _).alloc _).alloc _ = W at HB0 HB1 HB2 HM0 HSZ HSZ2 ⊢
    have HROW2 := Lib.hid (HROW.out.mod HM0.out)
    have HBB : Hid (0 < l.length → bb < w.heap.size) := Lib.hid (fun h => cell_lt (HROW.out 0 h).c0)
    go_loopw [4] (fun vi wr => ∃ (i : Nat) (v : Value), i ≤ l.length ∧ vi = .int .i64 (i : Int) ∧ Mod W wr [w.heap.size + 1 + 1] ∧ Blk wr (w.heap.size + 1 + 1) #[.int .i64 a, .int .i64 b, .int .i64 c, .string k, v] 32 ∧ wr.ownsRow (w.heap.size + 1 + 1 + 1) 64 5 v i (flatF (l.take i))) (fun vi _ => l.length + 1 - (intOf vi).toNat)
    case atStart => exact ⟨0, .slice none 0 0, by omega, rfl, Mod.refl _ _, HB2.out, rfl, .inl ⟨rfl, rfl⟩⟩
    case round =>
      obtain ⟨i, v, hile, rfl, hm, hbx, hown⟩ := hrel
      have HM := Lib.hid hm
      have HBX := Lib.hid hbx
      have x4 : wr.cell? ⟨w.heap.size + 1 + 1, 4, none⟩ = some v := hbx.cell 4
      have xf : wr.frozen? ⟨w.heap.size + 1 + 1, 4, none⟩ = false := hbx.free 4
      have e4 : wr.cell? ⟨w.heap.size, 4, none⟩ = some (.slice (some ⟨bb, off, none⟩) l.length cap) := (HB0.out.mod hm (by simp; omega)).cell 4
      have hsz : w.heap.size + 1 + 1 < wr.heap.size := Nat.lt_of_lt_of_le HSZ.out hm.size
      have HG := Lib.hid (own_ge hown)
      by_cases hlt : i < l.length
      · have hlt' : (i : Int) < l.length := by omega
        have hi0 : (0 : Int) ≤ (i : Int) := by omega
        have hcap0 : (l.length : Int) ≤ cap := by omega
        have hbb := HBB.out (by omega)
        have hcs : Cells5 wr bb (off + i * 5) (l[i]'hlt) := by
          have h := HROW2.out i hlt
          have hk : ∀ c u, W.cell? ⟨bb, c, none⟩ = some u → wr.cell? ⟨bb, c, none⟩ = some u := fun c u hu => (hm.cell (p := ⟨bb, c, none⟩) (cell_lt hu) (by simp; omega)).trans hu
          exact ⟨hk _ _ h.c0, hk _ _ h.c1, hk _ _ h.c2, hk _ _ h.c3, hk _ _ h.c4⟩
        have HT : Hid (flatF (l.take (i + 1)) = flatF (l.take i) ++ fldC (l[i]'hlt)) := Lib.hid (by
          rw [List.take_succ_eq_append_getElem hlt, flatF_snoc])
        obtain ⟨x, hx⟩ : ∃ x, (l[i]'hlt) = x := ⟨_, rfl⟩
        rw [hx] at hcs HT
        obtain ⟨c0, c1, c2, c3, c4⟩ := hcs
        generalize flatF (l.take i) = F at *
        clear hm hbx hx
        go_wp2_with fail
        refine He.wp_region_e 18 (fun w' => w'.cell? ⟨w.heap.size + 1 + 1, 4, none⟩ = some v ∧ w'.cell? ⟨w.heap.size, 4, none⟩ = some (.slice (some ⟨bb, off, none⟩) l.length cap) ∧ w'.cell? ⟨bb, off + i * 5, none⟩ = some (.string x.name) ∧ w'.cell? ⟨bb, off + i * 5 + 1, none⟩ = some (.int .i64 x.v.k) ∧ w'.cell? ⟨bb, off + i * 5 + 2, none⟩ = some (.int .i64 x.v.n) ∧ w'.cell? ⟨bb, off + i * 5 + 3, none⟩ = some (.float .f64 x.v.f) ∧ w'.cell? ⟨bb, off + i * 5 + 4, none⟩ = some (.string x.v.s)) (by kernel_rfl) ⟨x4, e4, c0, c1, c2, c3, c4⟩ (fun hHeld => ?_)
        have hk1 : ∀ p u, wr.cell? p = some u → (wr.drew.alloc (.cells (fldC x).toArray 64)).cell? p = some u := fun p u h => keepC (((Mod.refl wr []).drew).alloc _) h
        have HSZW : Hid (W.heap.size ≤ w.heap.size + 1 + 1 + 1) := Lib.hid HSZ2.out
        refine He.wpE_take (i := 0) (v := ?_) rfl (by kernel_rfl) (by kernel_rfl) (by kernel_rfl) (by kernel_rfl) (by kernel_rfl) (fun _ _ _ h => h) (by rfl) ?_ (by assumption) ?_
        rotate_left
        · (intro w' hSw; (try dsimp only at hSw); go_simp; first | done | with_reducible rfl)
        try simp only [Act.put, List.setIfInBounds_toArray, List.set_cons_zero, List.set_cons_succ]
        refine He.wpE_take (i := 1) (v := ?_) rfl (by kernel_rfl) (by kernel_rfl) (by kernel_rfl) (by kernel_rfl) (by kernel_rfl) (fun _ _ _ h => h) (by rfl) ?_ (by assumption) ?_
        rotate_left
        · (intro w' hSw; (try dsimp only at hSw); go_simp; first | done | with_reducible rfl)
        try simp only [Act.put, List.setIfInBounds_toArray, List.set_cons_zero, List.set_cons_succ]
        refine He.wpE_take (i := 2) (v := ?_) rfl (by kernel_rfl) (by kernel_rfl) (by kernel_rfl) (by kernel_rfl) (by kernel_rfl) (fun _ _ _ h => h) (by rfl) ?_ (by assumption) ?_
        rotate_left
        · (intro w' hSw; (try dsimp only at hSw); go_simp; first | done | with_reducible rfl)
        try simp only [Act.put, List.setIfInBounds_toArray, List.set_cons_zero, List.set_cons_succ]
        refine He.wpE_take (i := 3) (v := ?_) rfl (by kernel_rfl) (by kernel_rfl) (by kernel_rfl) (by kernel_rfl) (by kernel_rfl) (fun _ _ _ h => h) (by rfl) ?_ (by assumption) ?_
        rotate_left
        · (intro w' hSw; (try dsimp only at hSw); go_simp; first | done | with_reducible rfl)
        try simp only [Act.put, List.setIfInBounds_toArray, List.set_cons_zero, List.set_cons_succ]
        refine He.wpE_take (i := 4) (v := ?_) rfl (by kernel_rfl) (by kernel_rfl) (by kernel_rfl) (by kernel_rfl) (by kernel_rfl) (fun _ _ _ h => h) (by rfl) ?_ (by assumption) ?_
        rotate_left
        · (intro w' hSw; (try dsimp only at hSw); go_simp; first | done | with_reducible rfl)
        try simp only [Act.put, List.setIfInBounds_toArray, List.set_cons_zero, List.set_cons_succ]
        refine He.wpE_take (i := 5) (v := ?_) rfl (by kernel_rfl) (by kernel_rfl) (by kernel_rfl) (by kernel_rfl) (by kernel_rfl) (fun _ _ _ h => h) (by rfl) ?_ (by assumption) ?_
        rotate_left
        · (intro w' hSw; (try dsimp only at hSw); go_simp; first | done | with_reducible rfl)
        try simp only [Act.put, List.setIfInBounds_toArray, List.set_cons_zero, List.set_cons_succ]
        refine He.wpE_take (i := 6) (v := ?_) rfl (by kernel_rfl) (by kernel_rfl) (by kernel_rfl) (by kernel_rfl) (by kernel_rfl) (fun _ _ _ h => h) (by rfl) ?_ (by assumption) ?_
        rotate_left
        · (intro w' hSw; (try dsimp only at hSw); go_simp; first | done | with_reducible rfl)
        try simp only [Act.put, List.setIfInBounds_toArray, List.set_cons_zero, List.set_cons_succ]
        refine He.wpE_take (i := 7) (v := ?_) rfl (by kernel_rfl) (by kernel_rfl) (by kernel_rfl) (by kernel_rfl) (by kernel_rfl) (fun _ _ _ h => h) (by rfl) ?_ (by assumption) ?_
        rotate_left
        · (intro w' hSw; (try dsimp only at hSw); go_simp; first | done | with_reducible rfl)
        try simp only [Act.put, List.setIfInBounds_toArray, List.set_cons_zero, List.set_cons_succ]
        refine He.wpE_take (i := 8) (v := ?_) rfl (by kernel_rfl) (by kernel_rfl) (by kernel_rfl) (by kernel_rfl) (by kernel_rfl) (fun _ _ _ h => h) (by rfl) ?_ (by assumption) ?_
        rotate_left
        · (intro w' hSw; (try dsimp only at hSw); go_simp; first | done | with_reducible rfl)
        try simp only [Act.put, List.setIfInBounds_toArray, List.set_cons_zero, List.set_cons_succ]
        refine He.wpE_take (i := 9) (v := ?_) rfl (by kernel_rfl) (by kernel_rfl) (by kernel_rfl) (by kernel_rfl) (by kernel_rfl) (fun _ _ _ h => h) (by rfl) ?_ (by assumption) ?_
        rotate_left
        · (intro w' hSw; (try dsimp only at hSw); go_simp; first | done | with_reducible rfl)
        try simp only [Act.put, List.setIfInBounds_toArray, List.set_cons_zero, List.set_cons_succ]
        refine He.wpE_take (i := 10) (v := ?_) rfl (by kernel_rfl) (by kernel_rfl) (by kernel_rfl) (by kernel_rfl) (by kernel_rfl) (fun _ _ _ h => h) (by rfl) ?_ (by assumption) ?_
        rotate_left
        · (intro w' hSw; (try dsimp only at hSw); go_simp; first | done | with_reducible rfl)
        try simp only [Act.put, List.setIfInBounds_toArray, List.set_cons_zero, List.set_cons_succ]
        refine He.wpE_take (i := 11) (v := ?_) rfl (by kernel_rfl) (by kernel_rfl) (by kernel_rfl) (by kernel_rfl) (by kernel_rfl) (fun _ _ _ h => h) (by rfl) ?_ (by assumption) ?_
        rotate_left
        · (intro w' hSw; (try dsimp only at hSw); go_simp; first | done | with_reducible rfl)
        try simp only [Act.put, List.setIfInBounds_toArray, List.set_cons_zero, List.set_cons_succ]
        refine He.wpE_take (i := 12) (v := ?_) rfl (by kernel_rfl) (by kernel_rfl) (by kernel_rfl) (by kernel_rfl) (by kernel_rfl) (fun _ _ _ h => h) (by rfl) ?_ (by assumption) ?_
        rotate_left
        · (intro w' hSw; (try dsimp only at hSw); go_simp; first | done | with_reducible rfl)
        try simp only [Act.put, List.setIfInBounds_toArray, List.set_cons_zero, List.set_cons_succ]
        refine He.wpE_take (i := 13) (v := ?_) rfl (by kernel_rfl) (by kernel_rfl) (by kernel_rfl) (by kernel_rfl) (by kernel_rfl) (fun _ _ _ h => h) (by rfl) ?_ (by assumption) ?_
        rotate_left
        · (intro w' hSw; (try dsimp only at hSw); go_simp; first | done | with_reducible rfl)
        try simp only [Act.put, List.setIfInBounds_toArray, List.set_cons_zero, List.set_cons_succ]
        refine He.wpE_take (i := 14) (v := ?_) rfl (by kernel_rfl) (by kernel_rfl) (by kernel_rfl) (by kernel_rfl) (by kernel_rfl) (fun _ _ _ h => h) (by rfl) ?_ (by assumption) ?_
        rotate_left
        · (intro w' hSw; (try dsimp only at hSw); go_simp; first | done | with_reducible rfl)
        try simp only [Act.put, List.setIfInBounds_toArray, List.set_cons_zero, List.set_cons_succ]
        refine He.wpE_one (i := 15) (by kernel_rfl) rfl (by rfl) (fun K hK => ?_)
        go_simp
        refine hK.out _ _ (fun _ => ⟨hk1 _ _ x4, hk1 _ _ e4, hk1 _ _ c0, hk1 _ _ c1, hk1 _ _ c2, hk1 _ _ c3, hk1 _ _ c4⟩) ?_
        clear hK K
        try simp only [Act.put, List.setIfInBounds_toArray, List.set_cons_zero, List.set_cons_succ]
        refine He.wpE_one (i := 16) (by kernel_rfl) rfl (by rfl) (fun K hK => ?_)
        refine wp_append_lies _ _ _ _ (by rfl) (w.heap.size + 1 + 1 + 1) 64 i0 _ 5 56 Try.underlying30 hi hz0 hz1 hz2 rfl (by omega) v i F (by rfl) ((hown.drew).alloc _)
              ⟨wr.heap.size, 0, none⟩ 1 1 (fldC x) (by rfl) (by rfl) (World.news_of_block (cs := (fldC x).toArray) (t := 64) (fr := (0, 0)) (heap_alloc_new wr.drew _)) (by simp [Value.oneCell'])
              (by omega) (by unfold maxLen; omega) (by omega) (by simp; omega) (wr.heap.size + 1) (by simp) ?_
        intro gg gcap w1 hown1 hgrow hat hlt2
        have hne : ∀ g, g < w.heap.size + 1 + 1 + 1 → some g ≠ v.ownBlock := fun g hg h => by have := HG.out _ h.symm; omega
        have HBX1 := Lib.hid ((((HBX.out.drew).alloc (.cells (fldC x).toArray 64))).grown hgrow (hne _ (by omega)))
        have HM1 := Lib.hid ((((HM.out.drew).alloc (.cells (fldC x).toArray 64))).grown hgrow (fun k hk => .inr (by have := HG.out k hk; have := HSZW.out; omega)))
        have hk2 : ∀ p u, wr.cell? p = some u → p.block < w.heap.size + 1 + 1 + 1 → w1.cell? p = some u := fun p u h hb => keepG hgrow (hk1 p u h) (hne _ hb)
        have hS1 := And.intro (hk2 _ _ x4 (by simp)) (And.intro (hk2 _ _ e4 (by simp; omega)) (And.intro (hk2 _ _ c0 (by simp; omega)) (And.intro (hk2 _ _ c1 (by simp; omega)) (And.intro (hk2 _ _ c2 (by simp; omega)) (And.intro (hk2 _ _ c3 (by simp; omega)) (hk2 _ _ c4 (by simp; omega)))))))
        refine hK.out _ _ (fun _ => hS1) ?_
        clear hK K hk1 hk2
        have x41 : w1.cell? ⟨w.heap.size + 1 + 1, 4, none⟩ = some v := HBX1.out.cell 4
        have xf1 : w1.frozen? ⟨w.heap.size + 1 + 1, 4, none⟩ = false := HBX1.out.free 4
        try simp only [Act.put, List.setIfInBounds_toArray, List.set_cons_zero, List.set_cons_succ]
        refine He.wpE_take (i := 17) (v := ?_) rfl (by kernel_rfl) (by kernel_rfl) (by kernel_rfl) (by kernel_rfl) (by kernel_rfl) (fun _ _ _ h => h) (by rfl) ?_ (by assumption) ?_
        rotate_left
        · (intro w' hSw; (try dsimp only at hSw); go_simp; first | done | with_reducible rfl)
        try simp only [Act.put, List.setIfInBounds_toArray, List.set_cons_zero, List.set_cons_succ]
        refine He.wpE_one (i := 18) (by kernel_rfl) rfl (by rfl) (fun K hK => ?_)
        go_simp
        refine hK.out _ _ (fun h => absurd rfl h) ?_
        clear hK K
        refine He.wpE_done (by kernel_rfl) ?_
        try simp only [Act.put, List.setIfInBounds_toArray, List.set_cons_zero, List.set_cons_succ]
        go_wp2_with fail
        go_roundw
        case rel =>
          refine ⟨i + 1, _, by omega, by go_num, HM1.out.setCell (by simp) _, HBX1.out.set 4 _, ?_⟩
          rw [HT.out]
          exact own_mod hown1 ((Mod.refl w1 [w.heap.size + 1 + 1]).setCell (by simp) _) (fun k hk => by simp [Value.ownBlock] at hk; subst hk; rcases hat with h | h <;> simp <;> first | (have := HG.out _ h; omega) | omega)
        case measure => simp [intOf]; omega
      · obtain rfl : i = l.length := by omega
        obtain ⟨va, vn, vc, rfl⟩ := own_slice hown
        obtain ⟨y0, y1, y2, y3, y4⟩ := Blk5 HBX.out
        have hb1 := HB1.out.mod HM.out (by simp)
        obtain ⟨r0, r1, r2, r3, r4⟩ := Blk5 hb1
        have f0 := hb1.free 0
        have f1 := hb1.free 1
        have f2 := hb1.free 2
        have f3 := hb1.free 3
        have f4 := hb1.free 4
        have hge : (l.length : Int) ≤ (l.length : Int) := by omega
        rw [List.take_length] at hown
        clear hb1
        go_wp2_with fail
        have hms : Mod wr (((((wr.setCell ⟨w.heap.size + 1, 0, none⟩ (.int .i64 a)).setCell ⟨w.heap.size + 1, 1, none⟩ (.int .i64 b)).setCell ⟨w.heap.size + 1, 2, none⟩ (.int .i64 c)).setCell ⟨w.heap.size + 1, 3, none⟩ (.string k)).setCell ⟨w.heap.size + 1, 4, none⟩ (.slice va vn vc)) [w.heap.size + 1] :=
          (((((Mod.refl wr [w.heap.size + 1]).setCell (by simp) _).setCell (by simp) _).setCell (by simp) _).setCell (by simp) _).setCell (by simp) _
        refine bodyPost_ret (v := evV a b c k (.slice va vn vc)) (by simp [results, Try.results15, go_sem, r0, r1, r2, r3, r4]) rfl ?_
        refine ⟨_, rfl, ?_, ?_⟩
        · exact (HM0.out.trans HM.out (by simp; omega)).trans hms (by simp)
        · exact flds_of_own (own_mod hown hms (fun k hk => by have := HG.out k hk; simp; omega))
end Go.Proofs.Ytdmipmkgoefidaa.Ev
