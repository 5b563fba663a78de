/- Books: Read. -/
import Derived.Test.YtceocpohdckkoaaBx7
import Derived.RangeFuncNested
import Derived.RangeFuncCalls
import Derived.Shelf.Abstract
import Derived.Shelf.RegionOpen
import Derived.OwnWalkIn
import Derived.TacticsInMore
import Derived.LoopNIn
import Derived.LoopIn
namespace Go.Proofs.Ytceocpohdckkoaa.Bx
open Go.RowKit Mem
set_option linter.unusedSimpArgs false
set_option linter.unusedVariables false
set_option maxRecDepth 100000
attribute [local go_sem] Oper.semAt_some
def readS (base : Int) (rows : List (List Int)) (f m : Int) : List (List Int) × Int × Int :=
  if f < 0 ∨ m < 0 then ([], 0, 1) else if f < base then ([], base, 180) else ((rows.drop (f - base).toNat).take m.toNat, f + (((rows.drop (f - base).toNat).take m.toNat).length : Int), 0)
/-- Matches that are new. -/
def OutAt (D : Nat) (A : World) (v : Value) (outs : List (List Int)) : Prop := ∃ us, A.ownsRow D tM 1 v us.length us ∧ All2 (fun u xs => Fresh D A u xs) us outs
theorem OutAt.nil (D : Nat) (A : World) : OutAt D A (.slice none 0 0) [] := ⟨[], World.ownsRow_nil _ _ _ _, .nil⟩
def ReadP (w : World) (r : List (List Int) × Int × Int) (e : Ending) (w' : World) : Prop := ∃ v, e = .returned (.tuple #[v, .int .i64 r.2.1, .int .i64 r.2.2]) ∧ Mod w w' [] ∧ OutAt w.heap.size w' v r.1
theorem ret3 {a b c d e f : Value} (h1 : a = d) (h2 : b = e) (h3 : c = f) : Ending.returned (.tuple #[a, b, c]) = Ending.returned (.tuple #[d, e, f]) := by rw [h1, h2, h3]

theorem cell_nil (w : World) (m : Int) : ((w.alloc (.cells #[.int .i64 m] 3)).alloc (.cells #[.slice none 0 0] 34)).cell? ⟨w.heap.size + 1, 0, none⟩ = some (.slice none 0 0) := by
  have h := (Blk.new (w.alloc (.cells #[.int .i64 m] 3)) #[.slice none 0 0] 34).cell 0
  rw [World.size_alloc] at h
  exact h
theorem mod_two (w : World) (o o' : Obj) : Mod w ((w.alloc o).alloc o') [] := ((Mod.refl w []).alloc o).alloc o'

theorem read_nil (f m : Int) (w : World) : Calls Try.prog 18 #[.pointer none, .int .i64 f, .int .i64 m] w (ReadP w ([], 0, 1)) := by
  have c6 := cell_nil w m
  go_enter Try.func18, Try.ntmps18
  go_wp2
  refine bodyPost_ret (v := .tuple #[.slice none 0 0, .int .i64 0, .int .i64 1]) (by simp [results, Try.results18, go_sem, c6]) rfl ?_
  exact ⟨_, rfl, mod_two _ _ _, OutAt.nil _ _⟩
theorem read_arg {w : World} {g : Nat} (f m : Int) (h : f < 0 ∨ m < 0) : Calls Try.prog 18 #[ptr g, .int .i64 f, .int .i64 m] w (ReadP w ([], 0, 1)) := by
  have c6 := cell_nil w m
  by_cases h0 : f < 0
  · clear h
    go_enter Try.func18, Try.ntmps18
    go_wp2
    refine bodyPost_ret (v := .tuple #[.slice none 0 0, .int .i64 0, .int .i64 1]) (by simp [results, Try.results18, go_sem, c6]) rfl ?_
    exact ⟨_, rfl, mod_two _ _ _, OutAt.nil _ _⟩
  · have h1 : m < 0 := by omega
    have hb : decide (f < 0) = false := decide_eq_false h0
    clear h
    go_enter Try.func18, Try.ntmps18
    go_wp2
    refine bodyPost_ret (v := .tuple #[.slice none 0 0, .int .i64 0, .int .i64 1]) (by simp [results, Try.results18, go_sem, c6]) rfl ?_
    exact ⟨_, rfl, mod_two _ _ _, OutAt.nil _ _⟩
set_option maxHeartbeats 1000000 in
theorem read_gone {w : World} {N : Nat} {X : Nat → Prop} {g : Nat} {base : Int} {rows : List (List Int)} (h : BookAt w N X g base rows) (f m : Int) (h0 : 0 ≤ f) (h1 : 0 ≤ m) (h2 : f < base) :
    Calls Try.prog 18 #[ptr g, .int .i64 f, .int .i64 m] w (ReadP w ([], base, 180)) := by
  have c6 := cell_nil w m
  have HM := Lib.hid (mod_two w (.cells #[.int .i64 m] 3) (.cells #[.slice none 0 0] 34))
  have hgw : g < w.heap.size := by obtain ⟨a, c, hb⟩ := h.rows; exact hb.lt
  obtain ⟨a, c, hb⟩ := (h.mod HM.out).rows
  have c0 := hb.cell 0
  have HB := Lib.hid hb
  have hb0 : decide (f < 0) = false := decide_eq_false (by omega)
  have hb1 : decide (m < 0) = false := decide_eq_false (by omega)
  have f6 : ((w.alloc (.cells #[.int .i64 m] 3)).alloc (.cells #[.slice none 0 0] 34)).frozen? ⟨w.heap.size + 1, 0, none⟩ = false := by
    have h := (Blk.new (w.alloc (.cells #[.int .i64 m] 3)) #[.slice none 0 0] 34).free 0
    rw [World.size_alloc] at h
    exact h
  clear h hb
  go_enter Try.func18, Try.ntmps18
  go_wp2_with fail
  have hsz : w.heap.size + 1 < ((w.alloc (.cells #[.int .i64 m] 3)).alloc (.cells #[.slice none 0 0] 34)).heap.size := by simp
  generalize (w.alloc _).alloc _ = W at *
  have d0 : W.cell? ⟨g, 0, none⟩ = some (.int .i64 base) := c0
  have hne1 : ¬ g = w.heap.size + 1 := by omega
  have hne2 : ¬ w.heap.size + 1 = g := by omega
  clear c0
  go_region
  all_goals go_wp2
  have e6 : ((W.setCell ⟨w.heap.size + 1, 0, none⟩ (.slice none 0 0)).drew).cell? ⟨w.heap.size + 1, 0, none⟩ = some (.slice none 0 0) := World.cell?_setCell_same' _ _ _ (by rw [c6]; rfl)
  refine bodyPost_ret (v := .tuple #[.slice none 0 0, .int .i64 base, .int .i64 180]) (by simp [results, Try.results18, go_sem, e6]) rfl ?_
  exact ⟨_, rfl, (HM.out.setCell (.inr (by simp)) _).drew, OutAt.nil _ _⟩

/-- Between two rounds of Read. -/
structure RdI (w W0 : World) (N g : Nat) (base : Int) (rows : List (List Int)) (B5 B6 B0 B1 : Nat) (f : Int) (m : Nat) (pre : List El) (W : World) : Prop where
  src : Src W0.heap.size N g base rows B0 B1 f W
  md : Mod w W []
  b5 : Blk W B5 #[.int .i64 (m : Int)] 3
  b6 : ∃ v, Blk W B6 #[v] 34 ∧ W.ownsRow W0.heap.size tM 1 v pre.length (pre.map (·.1))
  rows : All2 (fun u xs => Fresh W0.heap.size W u xs) (pre.map (·.1)) (pre.map (·.2))
  len : pre.length ≤ m
theorem Src.trn {D N g : Nat} {base : Int} {rows : List (List Int)} {B0 B1 : Nat} {n : Int} {E : Nat} {A B : World} (h : Src D N g base rows B0 B1 n A) (t : Rg.Trn E A B) : Src D N g base rows B0 B1 n B :=
  ⟨Nat.le_trans h.size t.size, h.book.kept t.kept, Kept.blk t.kept h.b0, Kept.blk t.kept h.b1⟩
theorem mod_trn {w A B : World} (h : Mod w A []) {E : Nat} (hE : w.heap.size ≤ E) (t : Rg.Trn E A B) : Mod w B [] :=
  ⟨t.os.trans h.os, t.tape.trans h.tape, t.output.trans h.output, Nat.le_trans h.size t.size, fun k hk _ => by
    have hlt := Nat.lt_of_lt_of_le hk h.size
    rw [t.keep k _ (Array.getElem?_eq_getElem hlt) (.inl (by omega)), ← Array.getElem?_eq_getElem hlt]
    exact h.block k hk (by simp)⟩
theorem RdI.trn {w W0 : World} {N g : Nat} {base : Int} {rows : List (List Int)} {B5 B6 B0 B1 : Nat} {f : Int} {m : Nat} {pre : List El} {A B : World} (h : RdI w W0 N g base rows B5 B6 B0 B1 f m pre A) (hw : w.heap.size ≤ W0.heap.size) (t : Rg.Trn W0.heap.size A B) : RdI w W0 N g base rows B5 B6 B0 B1 f m pre B :=
  ⟨h.src.trn t, mod_trn h.md hw t, Kept.blk t.kept h.b5, h.b6.elim (fun v hv => ⟨v, Kept.blk t.kept hv.1, Kept.own t.kept hv.2⟩), all2_mono (fun _ _ h => h.kept t.kept) h.rows, h.len⟩

theorem keeps_set (D : Nat) {A : World} {p : Addr} {cs : Array Value} {t : TypeId} (hb : Blk A p.block cs t) (y : Value) : KeepsFrom D A (A.setCell p y) :=
  ⟨by simp [World.setCell], fun k o _ hk ho => by
    rw [Below.heap_setCell _ _ _ _ (fun e => ?_)]
    · exact hk
    · unfold Blk at hb
      rw [← e, hk] at hb
      injection hb with hb
      subst hb
      cases ho⟩
theorem keeps_grown (D : Nat) {A B : World} {base : Nat} {e : TypeId} {size : Nat} {v : Value} {n : Nat} {xs : List Value} (ho : A.ownsRow base e size v n xs) (hg : A.grownBy B v.ownBlock) : KeepsFrom D A B :=
  ⟨hg.size, fun k o _ hk hc => by
    rw [hg.block k (heap_lt hk) (fun e => ?_)]
    · exact hk
    · obtain ⟨cur, hb⟩ := own_blk ho k e.symm
      unfold Blk at hb
      rw [hk] at hb
      injection hb with hb
      subst hb
      cases hc⟩

/-- A match is appended to an owned row of matches, and the slice stored in its box. -/
theorem gs_blk {A B : World} {base : Nat} {v : Value} {n : Nat} {xs : List Value} {o : Obj} (ho : A.ownsRow base tM 1 v n xs) (hg : (A.alloc o).grownBy B v.ownBlock) {b6 : Nat} {cs6 : Array Value} (h6 : Blk A b6 cs6 34) (y : Value)
    {k : Nat} {cs : Array Value} {t : TypeId} (hk : Blk A k cs t) (ht : t ≠ tM) (ht6 : t ≠ 34) : Blk (B.setCell ⟨b6, 0, none⟩ y) k cs t :=
  (Rw.blk_grown (hk.alloc o) hg (fun e => by obtain ⟨cur, hb⟩ := own_blk ho k e.symm; exact blk_ne hk hb ht rfl)).far (p := ⟨b6, 0, none⟩) (blk_ne hk h6 ht6) _
theorem gs_fresh {A B : World} {base : Nat} {v : Value} {n : Nat} {xs : List Value} {o : Obj} (ho : A.ownsRow base tM 1 v n xs) (hg : (A.alloc o).grownBy B v.ownBlock) {b6 : Nat} {cs6 : Array Value} (h6 : Blk A b6 cs6 34) (y : Value)
    {D : Nat} {u : Value} {row : List Int} (h : Fresh D A u row) : Fresh D (B.setCell ⟨b6, 0, none⟩ y) u row := by
  obtain ⟨hne, b, cap, h1, h2, ⟨h3, _⟩ | ⟨g, c, cur, q1, q2, q3, q4⟩⟩ := h
  · rw [h1] at h3; cases h3
  · exact ⟨hne, b, cap, h1, h2, .inr ⟨g, c, cur, q1, q2, gs_blk ho hg h6 y q3 (by decide) (by decide), q4⟩⟩

theorem read_fin {w Wd : World} {D0 B6 D n : Nat} {va : Option Addr} {vc : Nat} {us : List Value} {outs : List (List Int)} (hmd : Mod w Wd []) (hb6 : Blk Wd B6 #[.slice va n vc] 34) (hown : Wd.ownsRow D0 tM 1 (.slice va n vc) n us) (hn : us.length = n)
    (hr : All2 (fun u xs => Fresh D0 Wd u xs) us outs) (hKd : Wd.heap[D]? = some (.deferred (some []))) (hD : D0 ≤ D) (h0 : w.heap.size ≤ D0) (h6 : w.heap.size ≤ B6) (h6D : D ≠ B6) :
    ((Wd.setCell ⟨B6, 0, none⟩ (.slice va n vc)).heap[D]? = some (.deferred (some []))) ∧ ((Wd.setCell ⟨B6, 0, none⟩ (.slice va n vc)).putObj D (.deferred none)).cell? ⟨B6, 0, none⟩ = some (.slice va n vc) ∧
      Mod w ((Wd.setCell ⟨B6, 0, none⟩ (.slice va n vc)).putObj D (.deferred none)) [] ∧ OutAt w.heap.size ((Wd.setCell ⟨B6, 0, none⟩ (.slice va n vc)).putObj D (.deferred none)) (.slice va n vc) outs := by
  have hk : (Wd.setCell ⟨B6, 0, none⟩ (.slice va n vc)).heap[D]? = some (.deferred (some [])) := by
    rw [Below.heap_setCell _ _ _ _ (by exact h6D)]
    exact hKd
  have ht : Rg.Trn D0 (Wd.setCell ⟨B6, 0, none⟩ (.slice va n vc)) ((Wd.setCell ⟨B6, 0, none⟩ (.slice va n vc)).putObj D (.deferred none)) := Rg.Trn.turn _ hD hk rfl
  refine ⟨hk, ((Kept.blk ht.kept (hb6.set 0 (.slice va n vc))).cell 0), mod_trn (hmd.setCell (.inr h6) _) h0 ht, us, ?_, all2_mono (fun u xs h => ?_) hr⟩
  · have h1 := own_putB hown (p := ⟨B6, 0, none⟩) (y := .slice va n vc) (fun k hk => by
      obtain ⟨cur, hb⟩ := own_blk hown k hk
      exact blk_ne hb hb6 (by decide))
    rw [hn]
    exact Kept.own ht.kept ⟨h1.1, h1.2.imp id (fun ⟨g, c, cur, q1, q2, q3⟩ => ⟨g, c, cur, q1, Nat.le_trans h0 q2, q3⟩)⟩
  · refine ((h.mono h0) : Fresh w.heap.size Wd u xs) |> fun h => ?_
    obtain ⟨hne, b, cap, h1, h2⟩ := h
    refine ⟨hne, b, cap, h1, Kept.own ht.kept (own_putB h2 (fun k hk => ?_))⟩
    obtain ⟨cur, hb⟩ := own_blk h2 k hk
    exact blk_ne hb hb6 (by decide)

set_option maxHeartbeats 4000000 in
theorem read_main {w : World} {N : Nat} {g : Nat} {base : Int} {rows : List (List Int)} (h : BookAt w N (fun _ => False) g base rows) (f : Int) (m : Nat) (h0 : 0 ≤ f) (h2 : base ≤ f) (hf1 : f ≤ 9223372036854775807)
    (hb0 : 0 ≤ base) (hb1 : base ≤ 549755813888) (hl : rows.length ≤ 64) (hr16 : ∀ r ∈ rows, r.length ≤ 16) (hm1 : (m : Int) ≤ 9223372036854775807) :
    Calls Try.prog 18 #[ptr g, .int .i64 f, .int .i64 (m : Int)] w (ReadP w ((rows.drop (f - base).toNat).take m, f + (((rows.drop (f - base).toNat).take m).length : Int), 0)) := by
  have HM := Lib.hid (mod_two w (.cells #[.int .i64 (m : Int)] 3) (.cells #[.slice none 0 0] 34))
  have hgw : g < w.heap.size := by obtain ⟨a, c, hb⟩ := h.rows; exact hb.lt
  have H := Lib.hid h
  obtain ⟨a, c, hb⟩ := (h.mod HM.out).rows
  have c0 := hb.cell 0
  have c5 := ((Blk.new w #[.int .i64 (m : Int)] 3).alloc (.cells #[.slice none 0 0] 34))
  have c6 := (Blk.new (w.alloc (.cells #[.int .i64 (m : Int)] 3)) #[.slice none 0 0] 34)
  rw [World.size_alloc] at c6
  have H5 := Lib.hid c5
  have H6 := Lib.hid c6
  have d5 := c5.cell 0
  have hbb0 : decide (f < 0) = false := decide_eq_false (by omega)
  have hbb1 : decide ((m : Int) < 0) = false := decide_eq_false (by omega)
  have hsz : w.heap.size + 1 + 1 = ((w.alloc (.cells #[.int .i64 (m : Int)] 3)).alloc (.cells #[.slice none 0 0] 34)).heap.size := by simp
  obtain ⟨r, hr⟩ : ∃ r, ((rows.drop (f - base).toNat).take m, f + (((rows.drop (f - base).toNat).take m).length : Int), (0 : Int)) = r := ⟨_, rfl⟩
  rw [hr]
  have HRR := Lib.hid hr
  have HR16 := Lib.hid hr16
  clear h hb c5 c6 hr hr16
  refine (callsIn_wide (n := 9)).1 (callsIn_of_wp_marks Try.func18 rfl trivial ?_ rfl)
  refine wpIn_wide.2 ?_
  simp only [Try.ntmps18, List.size_toArray, List.length_cons, List.length_nil, Nat.reduceAdd, Nat.reduceSub, Array.replicate_succ, Array.replicate_zero, List.push_toArray, List.append_toArray, List.nil_append, List.cons_append]
  go_wp2_with fail
  generalize (w.alloc _).alloc _ = W at *
  (with_reducible refine (from_calls W g f).mono ?_)
  rintro e W1 ⟨rfl, hW1⟩
  have HMW := Lib.hid (show Mod W W1 [] by rw [hW1]; exact mod_two _ _ _)
  have HB0 : Hid (Blk W1 W.heap.size #[ptr g] 23) := Lib.hid (by rw [hW1]; exact (Blk.new W _ _).alloc _)
  have HB1 : Hid (Blk W1 (W.heap.size + 1) #[.int .i64 f] 3) := Lib.hid (by
    rw [hW1]
    have h := Blk.new (W.alloc (.cells #[ptr g] 23)) #[.int .i64 f] 3
    rw [World.size_alloc] at h
    exact h)
  have hs1 : W.heap.size + 2 = W1.heap.size := by rw [hW1]; simp
  clear hW1 c0 d5
  have HM1 := Lib.hid (HM.out.trans0 HMW.out)
  have HI0 : Hid (RdI w W1 N g base rows w.heap.size (w.heap.size + 1) W.heap.size (W.heap.size + 1) f m [] W1) := Lib.hid
    ⟨⟨Nat.le_refl _, H.out.mod HM1.out, HB0.out, HB1.out⟩, HM1.out, H5.out.mod HMW.out (by simp), ⟨_, H6.out.mod HMW.out (by simp), World.ownsRow_nil _ _ _ _⟩, .nil, Nat.zero_le _⟩
  have hw1 : w.heap.size + 4 = W1.heap.size := by omega
  clear HB0 HB1 H5 H6 HMW HM1
  go_wp2_with fail
  refine Rg.range_law (gf := 69) (lb := #[ptr (W.heap.size + 1), ptr W.heap.size]) rfl (enters_of Try.func69 (by kernel_rfl) rfl) rfl
    (enc := enc) (Hd := fun x A => Fresh W1.heap.size A x.1 x.2 ∧ x.2 ∈ rows) (fun x A B h t => ⟨h.1.kept t.kept, h.2⟩) (K := Src W1.heap.size N g base rows W.heap.size (W.heap.size + 1) f)
    (fun pre A => RdI w W1 N g base rows w.heap.size (w.heap.size + 1) W.heap.size (W.heap.size + 1) f m pre A)
    (fun c s A => c = .exit 1 ∧ ∃ (pre : List El) (x : El), s = pre ++ [x] ∧ pre.length = m ∧ RdI w W1 N g base rows w.heap.size (w.heap.size + 1) W.heap.size (W.heap.size + 1) f m pre A)
    (fun s A B h t => h.trn (by omega) t) (fun c s A B h t => by obtain ⟨h1, pre, x, h2, h3, h4⟩ := h; exact ⟨h1, pre, x, h2, h3, h4.trn (by omega) t⟩) (fun s A h => h.src) HI0.out
    (N := rows.length) (S := fun xs => xs.map (·.2) = rows.drop (f - base).toNat) (Sp := fun pre => ∃ k, pre.map (·.2) = (rows.drop (f - base).toNat).take k)
    (fun W' _ => from_hands (fun _ h => h) hb0 hb1 hl h2 hf1 HR16.out W') ?round ?done ?stop
  case round =>
    intro l pre x Wr hi hx hlen
    obtain ⟨hsrc, hmd, hb5, ⟨v, hb6, hown⟩, hrows, hln⟩ := hi
    obtain ⟨u, row⟩ := x
    replace hx := hx.1
    have HF := Lib.hid hx
    obtain ⟨hrne, rb, rcap, hu, hro⟩ := hx
    simp only at hu hrne hro HF
    subst hu
    have HSRC := Lib.hid hsrc
    have HMD := Lib.hid hmd
    have H5r := Lib.hid hb5
    have H6r := Lib.hid hb6
    have HOWN := Lib.hid hown
    have HROWS := Lib.hid hrows
    clear hsrc hmd hb5 hb6 hown hrows hro HI0
    have hDr : W1.heap.size ≤ Wr.heap.size := HSRC.out.size
    gi_wp2
    refine ⟨(KeepsOthers.alloc _ _).from _, fun W₂ ht => ?_⟩
    have ht0 := Lib.hid ((Rg.Trn.mod (D := W1.heap.size) ((Mod.refl Wr []).alloc (.cells #[slV rb row.length rcap] 32))).trans ht)
    have H9 := Lib.hid (Kept.blk ht.kept (Blk.new Wr #[slV rb row.length rcap] 32))
    clear ht
    obtain ⟨va, vc, hva⟩ := Rw.own_slice HOWN.out
    subst hva
    have HS2 := Lib.hid (HSRC.out.trn ht0.out)
    have HM2 := Lib.hid (mod_trn HMD.out (by omega) ht0.out)
    have H5b := Lib.hid (Kept.blk ht0.out.kept H5r.out)
    have H6b := Lib.hid (Kept.blk ht0.out.kept H6r.out)
    have HO2 := Lib.hid (Kept.own ht0.out.kept HOWN.out)
    have HR2 := Lib.hid (all2_mono (fun _ _ h => h.kept ht0.out.kept) HROWS.out)
    have HF2 := Lib.hid (HF.out.kept ht0.out.kept)
    have hs2 : Wr.heap.size + 1 ≤ W₂.heap.size := by have := ht0.out.size; have := H9.out.lt; omega
    have c5 := H5b.out.cell 0
    have c6 := H6b.out.cell 0
    have f6 := H6b.out.free 0
    have c9 := H9.out.cell 0
    clear HSRC HMD H5r H6r HOWN HROWS HF ht0
    have hlnI : (pre.length : Int) ≤ m := by omega
    by_cases hfull : pre.length = m
    · have hge : (m : Int) ≤ pre.length := by omega
      gi_wp2
      exact ⟨KeepsFrom.refl _ _, rfl, pre, _, rfl, hfull, HS2.out, HM2.out, H5b.out, ⟨_, H6b.out, HO2.out⟩, HR2.out, hln⟩
    · have hlt : (pre.length : Int) < m := by omega
      have hpl : pre.length < 64 := by omega
      obtain ⟨i0, hi0, hz0, hz1, hz2⟩ := info_parts info_match
      have HC3 := Lib.hid (Blk.new W₂ #[slV rb row.length rcap] 32)
      have hbase : W1.heap.size ≤ W₂.heap.size := by omega
      generalize hpls : pre.map (·.1) = us at *
      gi_wp2_with (gi_at_builtin; refine wpListIn_append_own _ rfl _ _ 34 rfl W1.heap.size 32 i0 _ 1 24 Try.underlying34 hi0 hz0 hz1 hz2 rfl (by decide) _ _ _ rfl (HO2.out.alloc _) ⟨W₂.heap.size, 0, none⟩ 1 1 [slV rb row.length rcap] rfl rfl (cell_one_new _ _ _) (by simp [Value.oneCell']) (by unfold maxLen; omega) (by omega) (by simp; omega) ?_; intro v' w3 hown' hgrow hnil; clear hnil; have HO3 := Lib.hid hown'; have HG3 := Lib.hid hgrow; clear hown' hgrow; obtain ⟨a3, c3, hv3⟩ := Rw.own_slice HO3.out; subst hv3; have H6c := Lib.hid (Rw.blk_grown (H6b.out.alloc (.cells #[slV rb row.length rcap] 32)) HG3.out (fun e => by obtain ⟨cur, hb⟩ := own_blk HO2.out _ e.symm; exact blk_ne hb H6b.out (by decide) rfl)); have g6 := H6c.out.cell 0; have k6 := H6c.out.free 0)
      have HM4 := (((HM2.out.alloc (.cells #[slV rb row.length rcap] 32)).grown HG3.out (fun k hk => .inr (by have := own_ge HO2.out k hk; omega))).setCell (p := ⟨w.heap.size + 1, 0, none⟩) (.inr (by simp)) (.slice a3 (pre.length + 1) c3))
      refine ⟨?_, ⟨⟨?_, H.out.mod HM4, gs_blk HO2.out HG3.out H6b.out _ HS2.out.b0 (by decide) (by decide), gs_blk HO2.out HG3.out H6b.out _ HS2.out.b1 (by decide) (by decide)⟩, HM4, gs_blk HO2.out HG3.out H6b.out _ H5b.out (by decide) (by decide), ⟨_, H6c.out.set 0 _, ?_⟩, ?_, by simp; omega⟩⟩
      · exact (((KeepsOthers.alloc W₂ _).from W1.heap.size).trans (keeps_grown _ (HO2.out.alloc _) HG3.out)).trans (keeps_set _ H6c.out _)
      · simp [World.setCell]
        have := HG3.out.size
        simp at this
        omega
      · rw [List.map_append, hpls, List.length_append]
        exact own_putB HO3.out (fun k hk => by
          obtain ⟨cur, hb⟩ := own_blk HO3.out k hk
          exact blk_ne hb H6c.out (by decide))
      · rw [List.map_append, List.map_append, hpls]
        exact all2_snoc (gs_fresh HO2.out HG3.out H6b.out _ HF2.out) (all2_mono (fun _ _ h => gs_fresh HO2.out HG3.out H6b.out _ h) HR2.out)
  case done =>
    intro D xs Wd hD hS hi hKd
    obtain ⟨hsrc, hmd, hb5, ⟨v, hb6, hown⟩, hrows, hln⟩ := hi
    obtain ⟨va, vc, hva⟩ := Rw.own_slice hown
    subst hva
    have H6 := Lib.hid hb6
    have HM := Lib.hid hmd
    have HO := Lib.hid hown
    have HR := Lib.hid hrows
    have HKD := Lib.hid hKd
    have c6 := hb6.cell 0
    have f6 := hb6.free 0
    have HS := Lib.hid hS
    have hxl : Hid (xs.length = rows.length - (f - base).toNat) := Lib.hid (by
      have := congrArg List.length hS
      rw [List.length_map, List.length_drop] at this
      exact this)
    have hxI : (xs.length : Int) ≤ 64 := by have := hxl.out; omega
    have hfx : f + (xs.length : Int) ≤ 9223372036854775807 := by have := hxl.out; omega
    clear hsrc hmd hb5 hb6 hown hrows hS hKd HI0
    go_wp2_with fail
    obtain ⟨q1, q2, q3, q4⟩ := read_fin HM.out H6.out HO.out (by simp) HR.out HKD.out hD (by omega) (Nat.le_succ w.heap.size) (by omega)
    refine ⟨by simp, .inl ⟨_, _, rfl, run_takeDeferred q1, ?_⟩⟩
    refine ⟨.tuple #[.slice va xs.length vc, .int .i64 (f + (xs.length : Nat)), .int .i64 0], by simp [results, Try.results18, go_sem, q2], ?_⟩
    rw [← HRR.out]
    have he : (rows.drop (f - base).toNat).take m = xs.map (·.2) := by
      rw [← HS.out, List.take_of_length_le (by rw [List.length_map]; exact hln)]
    rw [he, List.length_map]
    exact ⟨_, rfl, q3, q4⟩
  case stop =>
    intro D cj pre Wd hD hS hi hKd
    obtain ⟨rfl, pre', x, rfl, hpm, hsrc, hmd, hb5, ⟨v, hb6, hown⟩, hrows, hln⟩ := hi
    obtain ⟨va, vc, hva⟩ := Rw.own_slice hown
    subst hva
    have H6 := Lib.hid hb6
    have HM := Lib.hid hmd
    have HO := Lib.hid hown
    have HR := Lib.hid hrows
    have HKD := Lib.hid hKd
    have c6 := hb6.cell 0
    have f6 := hb6.free 0
    have HS := Lib.hid hS
    have hxl : Hid (pre'.length + 1 ≤ rows.length - (f - base).toNat) := Lib.hid (by
      obtain ⟨k, hk⟩ := hS
      have := congrArg List.length hk
      rw [List.length_map, List.length_append, List.length_take, List.length_drop, List.length_singleton] at this
      omega)
    have hxI : (pre'.length : Int) ≤ 64 := by have := hxl.out; omega
    have hfx : f + (pre'.length : Int) ≤ 9223372036854775807 := by have := hxl.out; omega
    have HPM := Lib.hid hpm
    clear hsrc hmd hb5 hb6 hown hrows hS hKd HI0 hpm hln
    go_wp2_with fail
    obtain ⟨q1, q2, q3, q4⟩ := read_fin HM.out H6.out HO.out (by simp) HR.out HKD.out hD (by omega) (Nat.le_succ w.heap.size) (by omega)
    refine ⟨by simp, .inl ⟨_, _, rfl, run_takeDeferred q1, ?_⟩⟩
    refine ⟨.tuple #[.slice va pre'.length vc, .int .i64 (f + (pre'.length : Nat)), .int .i64 0], by simp [results, Try.results18, go_sem, q2], ?_⟩
    rw [← HRR.out]
    have he : (rows.drop (f - base).toNat).take m = pre'.map (·.2) := by
      have hpm := HPM.out
      obtain ⟨k, hk⟩ := HS.out
      rw [List.map_append] at hk
      have h1 := congrArg (List.take m) hk
      rw [List.take_append_of_le_length (by rw [List.length_map]; omega), List.take_of_length_le (by rw [List.length_map]; omega), List.take_take] at h1
      rw [h1]
      congr 1
      have h2 := congrArg List.length hk
      rw [List.length_append, List.length_map, List.length_take, List.length_map, List.length_singleton] at h2
      omega
    rw [he, List.length_map]
    exact ⟨_, rfl, q3, q4⟩

theorem read_calls {w : World} {N : Nat} {g : Nat} {base : Int} {rows : List (List Int)} (h : BookAt w N (fun _ => False) g base rows) (f m : Int) (hf1 : f ≤ 9223372036854775807) (hm1 : m ≤ 9223372036854775807)
    (hb0 : 0 ≤ base) (hb1 : base ≤ 549755813888) (hl : rows.length ≤ 64) (hr16 : ∀ r ∈ rows, r.length ≤ 16) :
    Calls Try.prog 18 #[ptr g, .int .i64 f, .int .i64 m] w (ReadP w (readS base rows f m)) := by
  unfold readS
  by_cases h0 : f < 0 ∨ m < 0
  · rw [if_pos h0]
    exact read_arg f m h0
  rw [if_neg h0]
  by_cases h2 : f < base
  · rw [if_pos h2]
    exact read_gone h f m (by omega) (by omega) h2
  rw [if_neg h2]
  obtain ⟨k, rfl⟩ : ∃ k : Nat, m = (k : Int) := ⟨m.toNat, by omega⟩
  rw [Int.toNat_natCast]
  exact read_main h f k (by omega) (by omega) hf1 hb0 hb1 hl hr16 hm1
end Go.Proofs.Ytceocpohdckkoaa.Bx
