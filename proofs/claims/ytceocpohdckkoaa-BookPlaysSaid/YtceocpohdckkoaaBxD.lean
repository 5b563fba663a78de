/- Books: Text. -/
import Derived.Test.YtceocpohdckkoaaBxC
import Derived.Laws.EntriesVeiled
namespace Go.Proofs.Ytceocpohdckkoaa.Bx
open Go.RowKit Mem Bits
set_option linter.unusedSimpArgs false
set_option linter.unusedVariables false
set_option maxRecDepth 100000
attribute [local go_sem] Oper.semAt_some
abbrev putF (b : Nat) : Value := .func (.func 51) #[] #[ptr b]
/-- The worlds of Text: what is kept, and what is written so far. -/
structure TxC (w0 : World) (N g : Nat) (base : Int) (rows : List (List Int)) (s : ByteArray) (w : World) : Prop where
  bl : Below w0.heap.size w0 w
  at_ : AtS w w0.heap.size w0.heap.size s
  fb : Blk w (w0.heap.size + 1) #[putF w0.heap.size] 90
  bk : BookAt w N (fun _ => False) g base rows
theorem TxC.mod {w0 : World} {N g : Nat} {base : Int} {rows : List (List Int)} {s : ByteArray} {w w' : World} (h : TxC w0 N g base rows s w) (m : Mod w w' []) : TxC w0 N g base rows s w' :=
  ⟨h.bl.trans (below_mod h.bl.size m), Sc.at_mod h.at_ m, h.fb.mod m (by simp), h.bk.mod m⟩
theorem TxC.wr {w0 : World} {N g : Nat} {base : Int} {rows : List (List Int)} {s s' : ByteArray} {w w' : World} (h : TxC w0 N g base rows s w) (hw : Sc.Wr w0.heap.size w0.heap.size w w') (ha : AtS w' w0.heap.size w0.heap.size s') : TxC w0 N g base rows s' w' :=
  ⟨h.bl.trans hw.below, ha, wr_kept hw h.at_ _ _ _ h.fb ⟨by decide, by decide⟩, h.bk.keptT bookTs_notB (wr_kept hw h.at_)⟩
theorem TxC.put {w0 : World} {N g : Nat} {base : Int} {rows : List (List Int)} {s : ByteArray} {w : World} (h : TxC w0 N g base rows s w) (n : Int) (hn : 0 ≤ n ∧ n ≤ 9223372036854775807) (hs : s.size ≤ 1000000) :
    Calls Try.prog 51 #[.int .i64 n, ptr w0.heap.size] w fun e w' => e = .returned (.tuple #[]) ∧ TxC w0 N g base rows (s ++ numI n) w' ∧ Sc.Wr w0.heap.size w0.heap.size w w' :=
  (put_text w0.heap.size w0.heap.size s n w hn h.at_ h.bl.size hs).mono fun e w' ⟨h1, h2, h3⟩ => ⟨h1, h.wr h3 h2, h3⟩

theorem fresh_get {D : Nat} {A : World} {b n c : Nat} {xs : List Int} (h : Fresh D A (slV b n c) xs) : ∀ i, i < xs.length → A.cell? ⟨b, i, none⟩ = some (iv (gi xs i)) := by
  obtain ⟨b', cap, h1, _, _, _, h2⟩ := h.cell
  injection h1 with e1 _ _
  injection e1 with e1
  injection e1 with e1
  subst e1
  exact h2
theorem KeptT.trans {p : TypeId → Prop} {A B C : World} (h : KeptT p A B) (k : KeptT p B C) : KeptT p A C := fun i cs t hb ht => k i cs t (h i cs t hb ht) ht
/-- Between two rounds of Text. -/
structure TxI (w W1 : World) (N g : Nat) (base : Int) (rows : List (List Int)) (B0 B1 : Nat) (s0 : ByteArray) (pre : List El) (W : World) : Prop where
  src : Src W1.heap.size N g base rows B0 B1 base W
  tx : TxC w N g base rows (rowsT s0 (pre.map (·.2))) W
  r16 : ∀ r ∈ pre.map (·.2), r.length ≤ 16
theorem trn_keptT {D : Nat} {A B : World} (t : Rg.Trn D A B) (p : TypeId → Prop) : KeptT p A B := fun k cs ty h _ => t.kept k cs ty _ h
theorem at_trn {D : Nat} {A B : World} (t : Rg.Trn D A B) {N b : Nat} {bs : List Value} (h : Sc.At A N b bs) : Sc.At B N b bs := by
  rcases h with h | h
  · obtain ⟨hB, v, hb, hown, hne⟩ := h
    exact .inl ⟨hB, v, t.kept _ _ _ _ hb, Kept.own t.kept hown, hne⟩
  · obtain ⟨hB, v, hb, hown, hne⟩ := h
    exact .inr ⟨hB, v, t.kept _ _ _ _ hb, Kept.own t.kept hown, hne⟩
theorem below_trn {w A B : World} (h : Below w.heap.size w A) {E : Nat} (hE : w.heap.size ≤ E) (t : Rg.Trn E A B) : Below w.heap.size w B := (mod_trn (Mod.of_below h) hE t).below0
theorem TxC.trn {w0 : World} {N g : Nat} {base : Int} {rows : List (List Int)} {s : ByteArray} {A B : World} (h : TxC w0 N g base rows s A) {E : Nat} (hE : w0.heap.size ≤ E) (t : Rg.Trn E A B) : TxC w0 N g base rows s B :=
  ⟨below_trn h.bl hE t, at_trn t h.at_, Kept.blk t.kept h.fb, h.bk.kept t.kept⟩
theorem TxI.trn {w W1 : World} {N g : Nat} {base : Int} {rows : List (List Int)} {B0 B1 : Nat} {s0 : ByteArray} {pre : List El} {A B : World} (h : TxI w W1 N g base rows B0 B1 s0 pre A) (hw : w.heap.size ≤ W1.heap.size) (t : Rg.Trn W1.heap.size A B) : TxI w W1 N g base rows B0 B1 s0 pre B :=
  ⟨h.src.trn t, h.tx.trn hw t, h.r16⟩

set_option maxHeartbeats 4000000 in
theorem text_calls {w : World} {N : Nat} {g : Nat} {base : Int} {rows : List (List Int)} (h : BookAt w N (fun _ => False) g base rows)
    (hb0 : 0 ≤ base) (hb1 : base ≤ 549755813888) (hl : rows.length ≤ 64) (hr16 : ∀ r ∈ rows, r.length ≤ 16 ∧ ∀ x ∈ r, 0 ≤ x ∧ x ≤ 9223372036854775807) :
    Calls Try.prog 27 #[ptr g] w fun e w' => e = .returned (.string (txt base rows)) ∧ Mod w w' [] := by
  have H := Lib.hid h
  have HR16 := Lib.hid hr16
  have HA0 : Hid (AtS (w.alloc (.cells #[.pointer none, .slice none 0 0] Sc.tB)) w.heap.size w.heap.size ⟨#[]⟩) := Lib.hid (.inl ⟨Nat.le_refl _, .slice none 0 0, Blk.new w _ _, World.ownsRow_nil _ _ _ _, by simp [Value.ownBlock]⟩)
  have HM0 := Lib.hid ((Mod.refl w []).alloc (.cells #[.pointer none, .slice none 0 0] Sc.tB))
  clear h hr16
  refine (callsIn_wide (n := 9)).1 (callsIn_of_wp_marks Try.func27 rfl trivial ?_ rfl)
  refine wpIn_wide.2 ?_
  simp only [Try.ntmps27, List.size_toArray, List.length_cons, List.length_nil, Nat.reduceAdd, Nat.reduceSub, Array.replicate_succ, Array.replicate_zero, List.push_toArray, List.append_toArray, List.nil_append, List.cons_append]
  go_wp2_with fail
  have HC : Hid (TxC w N g base rows ⟨#[]⟩ ((w.alloc (.cells #[.pointer none, .slice none 0 0] Sc.tB)).alloc (.cells #[putF w.heap.size] 90))) := Lib.hid
    ⟨HM0.out.below0.trans (below_mod HM0.out.size ((Mod.refl _ _).alloc _)), Sc.at_mod HA0.out ((Mod.refl _ _).alloc _), by
      have h := Blk.new (w.alloc (.cells #[.pointer none, .slice none 0 0] Sc.tB)) #[putF w.heap.size] 90
      rw [World.size_alloc] at h
      exact h, H.out.mod (HM0.out.alloc _)⟩
  generalize (w.alloc _).alloc _ = W at *
  clear HA0 HM0 H
  have c4 := HC.out.fb.cell 0
  have hlr : (rows.length : Int) ≤ 64 := by omega
  have hz0 : (⟨#[]⟩ : ByteArray).size = 0 := rfl
  -- the first number
  have hs9 := (numI_size base).2
  have hwl : IntKind.i64.wrap (rows.length : Int) = (rows.length : Int) := IntWalk.i64_in _ (by omega)
  refine Fx.wp_region_f [3] (fun m w' => TxC w N g base rows (if m = 0 then ⟨#[]⟩ else numI base) w') (by kernel_rfl) (by decide) (HC.out.mod ((Mod.refl W []).drew)) ?_
  have hSS : ∀ m w', TxC w N g base rows (if m = 0 then ⟨#[]⟩ else numI base) w' → w'.cell? ⟨w.heap.size + 1, 0, none⟩ = some (putF w.heap.size) := fun m w' h => h.fb.cell 0
  refine Fx.take (i := 0) (v := ?_) _ rfl (by kernel_rfl) (by kernel_rfl) (by rfl) hSS ?_ ?_
  rotate_left
  · (intro w' hSw; (try dsimp only at hSw); go_simp; first | done | with_reducible rfl)
  try simp only [List.getElem_toArray, List.getElem_cons_succ, List.getElem_cons_zero, Act.put, List.setIfInBounds_toArray, List.set_cons_zero, List.set_cons_succ]
  refine Fx.take (i := 1) (v := ?_) _ rfl (by kernel_rfl) (by kernel_rfl) (by rfl) hSS ?_ ?_
  rotate_left
  · (intro w' hSw; (try dsimp only at hSw); go_simp; first | done | with_reducible rfl)
  try simp only [List.getElem_toArray, List.getElem_cons_succ, List.getElem_cons_zero, Act.put, List.setIfInBounds_toArray, List.set_cons_zero, List.set_cons_succ]
  refine Fx.call' (i := 2) rfl (by kernel_rfl) (by kernel_rfl) (by rfl) ?_
  apply Exists.intro
  apply Exists.intro
  apply Exists.intro
  refine ⟨?_, ?_, ?_⟩
  · (intro w'; go_simp; first | done | (refine ⟨?_, ?_⟩ <;> with_reducible rfl) | with_reducible rfl)
  · (intro m w' h; with_reducible refine (base_calls h.bk).mono ?_; rintro e w'' ⟨rfl, rfl⟩; exact ⟨rfl, h⟩)
  try simp only [List.getElem_toArray, List.getElem_cons_succ, List.getElem_cons_zero, Act.put, List.setIfInBounds_toArray, List.set_cons_zero, List.set_cons_succ]
  refine Fx.eff' (i := 3) 0 rfl (by kernel_rfl) (by kernel_rfl) (by rfl) (by kernel_rfl) (by kernel_rfl) ?_
  apply Exists.intro
  apply Exists.intro
  apply Exists.intro
  refine ⟨?_, ?_, ?_⟩
  · (intro w'; go_simp; first | done | (refine ⟨?_, ?_⟩ <;> with_reducible rfl) | with_reducible rfl)
  · (intro w' h; (with_reducible refine (TxC.put (s := ⟨#[]⟩) h base ⟨hb0, by omega⟩ (by omega)).mono ?_); rintro e w'' ⟨rfl, hc, -⟩; rw [nil_app] at hc; exact ⟨rfl, by rw [if_neg (by decide)]; exact hc⟩)
  try simp only [List.getElem_toArray, List.getElem_cons_succ, List.getElem_cons_zero, Act.put, List.setIfInBounds_toArray, List.set_cons_zero, List.set_cons_succ]
  refine Fx.done 1 (by kernel_rfl) (by kernel_rfl) (fun w2 hC2 => ?_)
  have HC2 : Hid (TxC w N g base rows (numI base) w2) := Lib.hid hC2
  clear hC2 hSS HC c4
  go_wp2_with fail
  -- the second
  refine Fx.wp_region_f [6] (fun m w' => TxC w N g base rows (if m = 0 then numI base else headT base rows.length) w') (by kernel_rfl) (by decide) (HC2.out.mod ((Mod.refl w2 []).drew)) ?_
  have hSS : ∀ m w', TxC w N g base rows (if m = 0 then numI base else headT base rows.length) w' → w'.cell? ⟨w.heap.size + 1, 0, none⟩ = some (putF w.heap.size) := fun m w' h => h.fb.cell 0
  have hsub : base + (rows.length : Int) - base = (rows.length : Int) := by omega
  refine Fx.take (i := 0) (v := ?_) _ rfl (by kernel_rfl) (by kernel_rfl) (by rfl) hSS ?_ ?_
  rotate_left
  · (intro w' hSw; (try dsimp only at hSw); go_simp; first | done | with_reducible rfl)
  try simp only [List.getElem_toArray, List.getElem_cons_succ, List.getElem_cons_zero, Act.put, List.setIfInBounds_toArray, List.set_cons_zero, List.set_cons_succ]
  refine Fx.take (i := 1) (v := ?_) _ rfl (by kernel_rfl) (by kernel_rfl) (by rfl) hSS ?_ ?_
  rotate_left
  · (intro w' hSw; (try dsimp only at hSw); go_simp; first | done | with_reducible rfl)
  try simp only [List.getElem_toArray, List.getElem_cons_succ, List.getElem_cons_zero, Act.put, List.setIfInBounds_toArray, List.set_cons_zero, List.set_cons_succ]
  refine Fx.take (i := 3) (v := ?_) _ rfl (by kernel_rfl) (by kernel_rfl) (by rfl) hSS ?_ ?_
  rotate_left
  · (intro w' hSw; (try dsimp only at hSw); go_simp; first | done | with_reducible rfl)
  try simp only [List.getElem_toArray, List.getElem_cons_succ, List.getElem_cons_zero, Act.put, List.setIfInBounds_toArray, List.set_cons_zero, List.set_cons_succ]
  refine Fx.call' (i := 2) rfl (by kernel_rfl) (by kernel_rfl) (by rfl) ?_
  apply Exists.intro
  apply Exists.intro
  apply Exists.intro
  refine ⟨?_, ?_, ?_⟩
  · (intro w'; go_simp; first | done | (refine ⟨?_, ?_⟩ <;> with_reducible rfl) | with_reducible rfl)
  · (intro m w' h; with_reducible refine (end_calls h.bk (by omega) hb1 (by omega)).mono ?_; rintro e w'' ⟨rfl, hm⟩; exact ⟨rfl, h.mod hm⟩)
  try simp only [List.getElem_toArray, List.getElem_cons_succ, List.getElem_cons_zero, Act.put, List.setIfInBounds_toArray, List.set_cons_zero, List.set_cons_succ]
  refine Fx.call' (i := 4) rfl (by kernel_rfl) (by kernel_rfl) (by rfl) ?_
  apply Exists.intro
  apply Exists.intro
  apply Exists.intro
  refine ⟨?_, ?_, ?_⟩
  · (intro w'; go_simp; first | done | (refine ⟨?_, ?_⟩ <;> with_reducible rfl) | with_reducible rfl)
  · (intro m w' h; with_reducible refine (base_calls h.bk).mono ?_; rintro e w'' ⟨rfl, rfl⟩; exact ⟨rfl, h⟩)
  try simp only [List.getElem_toArray, List.getElem_cons_succ, List.getElem_cons_zero, Act.put, List.setIfInBounds_toArray, List.set_cons_zero, List.set_cons_succ]
  refine Fx.take (i := 5) (v := ?_) _ rfl (by kernel_rfl) (by kernel_rfl) (by rfl) hSS ?_ ?_
  rotate_left
  · (intro w' hSw; (try dsimp only at hSw); go_simp; first | done | with_reducible rfl)
  try simp only [List.getElem_toArray, List.getElem_cons_succ, List.getElem_cons_zero, Act.put, List.setIfInBounds_toArray, List.set_cons_zero, List.set_cons_succ]
  refine Fx.eff' (i := 6) 0 rfl (by kernel_rfl) (by kernel_rfl) (by rfl) (by kernel_rfl) (by kernel_rfl) ?_
  apply Exists.intro
  apply Exists.intro
  apply Exists.intro
  refine ⟨?_, ?_, ?_⟩
  · (intro w'; go_simp; first | done | (refine ⟨?_, ?_⟩ <;> with_reducible rfl) | with_reducible rfl)
  · (intro w' h; (with_reducible refine (TxC.put (s := numI base) h (rows.length : Int) ⟨by omega, by omega⟩ (by omega)).mono ?_); rintro e w'' ⟨rfl, hc, -⟩; exact ⟨rfl, by rw [if_neg (by decide)]; exact hc⟩)
  try simp only [List.getElem_toArray, List.getElem_cons_succ, List.getElem_cons_zero, Act.put, List.setIfInBounds_toArray, List.set_cons_zero, List.set_cons_succ]
  refine Fx.done 1 (by kernel_rfl) (by kernel_rfl) (fun w5 hC5 => ?_)
  have HC5 : Hid (TxC w N g base rows (headT base rows.length) w5) := Lib.hid hC5
  clear hC5 hSS HC2 hsub
  obtain ⟨ra, rc, hrb⟩ := HC5.out.bk.rows
  have c0 := hrb.cell 0
  clear hrb
  go_wp2_with fail
  (with_reducible refine (from_calls w5 g base).mono ?_)
  rintro e W1 ⟨rfl, hW1⟩
  have HMW := Lib.hid (show Mod w5 W1 [] by rw [hW1]; exact mod_two _ _ _)
  have HB0 : Hid (Blk W1 w5.heap.size #[ptr g] 23) := Lib.hid (by rw [hW1]; exact (Blk.new w5 _ _).alloc _)
  have HB1 : Hid (Blk W1 (w5.heap.size + 1) #[.int .i64 base] 3) := Lib.hid (by
    rw [hW1]
    have h := Blk.new (w5.alloc (.cells #[ptr g] 23)) #[.int .i64 base] 3
    rw [World.size_alloc] at h
    exact h)
  have hs1 : w5.heap.size + 2 = W1.heap.size := by rw [hW1]; simp
  clear hW1 c0
  have HI0 : Hid (TxI w W1 N g base rows w5.heap.size (w5.heap.size + 1) (headT base rows.length) [] W1) := Lib.hid
    ⟨⟨Nat.le_refl _, HC5.out.bk.mod HMW.out, HB0.out, HB1.out⟩, HC5.out.mod HMW.out, by simp⟩
  have hw1 : w.heap.size + 2 ≤ W1.heap.size := by have := HC5.out.fb.lt; omega
  clear HB0 HB1 HMW HC5
  go_wp2_with fail
  refine Rg.range_law (gf := 69) (lb := #[ptr (w5.heap.size + 1), ptr w5.heap.size]) rfl (enters_of Try.func69 (by kernel_rfl) rfl) rfl
    (enc := enc) (Hd := fun x A => Fresh W1.heap.size A x.1 x.2 ∧ x.2 ∈ rows) (fun x A B h t => ⟨h.1.kept t.kept, h.2⟩) (K := Src W1.heap.size N g base rows w5.heap.size (w5.heap.size + 1) base)
    (fun pre A => TxI w W1 N g base rows w5.heap.size (w5.heap.size + 1) (headT base rows.length) pre A) (fun c s A => False)
    (fun s A B h t => h.trn (by omega) t) (fun c s A B h t => h) (fun s A h => h.src) HI0.out
    (N := rows.length) (S := fun xs => xs.map (·.2) = rows.drop (base - base).toNat) (Sp := fun pre => ∃ k, pre.map (·.2) = (rows.drop (base - base).toNat).take k)
    (fun W' _ => from_hands (fun _ h => h) hb0 hb1 hl (by omega) (by omega) (fun r hr => (HR16.out r hr).1) W') ?round ?done ?stop
  case round =>
    intro l pre x Wr hi hx hlen
    obtain ⟨u, row⟩ := x
    obtain ⟨hx, hmem⟩ := hx
    have HI := Lib.hid hi
    have hr := HR16.out row hmem
    obtain ⟨ub, uc, hu, _, huc, _, hcells⟩ := hx.cell
    simp only at hu huc hcells hr
    subst hu
    have HX := Lib.hid hx
    have HCE := Lib.hid hcells
    have HRV := Lib.hid hr.2
    have hr16 := hr.1
    have huc' : (row.length : Int) ≤ uc := by omega
    have hrl : (row.length : Int) ≤ 16 := by omega
    clear hi hx hcells hr hmem HI0
    gi_wp2
    refine ⟨(KeepsOthers.alloc _ _).from _, fun W₂ ht => ?_⟩
    have ht0 := Lib.hid ((Rg.Trn.mod (D := W1.heap.size) ((Mod.refl Wr []).alloc (.cells #[slV ub row.length uc] 32))).trans ht)
    have H9 := Lib.hid (Kept.blk ht.kept (Blk.new Wr #[slV ub row.length uc] 32))
    clear ht
    obtain ⟨s0, hs0⟩ : ∃ s0, rowsT (headT base rows.length) (pre.map (·.2)) = s0 := ⟨_, rfl⟩
    have HTX : Hid (TxC w N g base rows s0 W₂) := Lib.hid (by have h := HI.out.tx.trn (by omega) ht0.out; rw [hs0] at h; exact h)
    have HS := Lib.hid (HI.out.src.trn ht0.out)
    have HX2 := Lib.hid (HX.out.kept ht0.out.kept)
    have hsz : s0.size ≤ 18 + 153 * 64 := by
      have h1 := rowsT_size (headT base rows.length) _ HI.out.r16
      have h2 := headT_size base rows.length
      rw [hs0, List.length_map] at h1
      omega
    have HR16I := Lib.hid HI.out.r16
    have HZ0 := Lib.hid hs0
    have c4 := HTX.out.fb.cell 0
    have c9 := H9.out.cell 0
    have PC := Lib.hid (HTX.out.put (row.length : Int) ⟨by omega, by omega⟩ (by omega))
    clear HI HX ht0 hs0
    gi_wp2
    refine ⟨trivial, (CallsIn.inRound l (callsIn_wide.2 PC.out)).mono ?_⟩
    rintro e w6 ⟨rfl, hc6, hw6⟩
    have HTX6 := Lib.hid hc6
    have HW6 := Lib.hid (wr_from hw6 W1.heap.size)
    have HS6 := Lib.hid hw6.below.size
    have HK6 := Lib.hid (wr_kept hw6 HTX.out.at_)
    have d9 := (HK6.out _ _ _ H9.out ⟨by decide, by decide⟩).cell 0
    have hsz6 : (s0 ++ numI (row.length : Int)).size ≤ 18 + 153 * 64 + 9 := by
      have := (numI_size (row.length : Int)).2
      rw [ByteArray.size_append]
      omega
    clear hc6 hw6 PC c4 c9 HTX hs9
    obtain ⟨s1, hs1'⟩ : ∃ s1, s0 ++ numI (row.length : Int) = s1 := ⟨_, rfl⟩
    rw [hs1'] at HTX6 hsz6
    have HZ1 := Lib.hid hs1'
    clear hs1'
    gi_wp2
    gi_loopw [38] (fun vi wr => ∃ k : Nat, k ≤ row.length ∧ vi = .int .i64 (k : Int) ∧ TxC w N g base rows (putL s1 (row.take k)) wr ∧ KeepsFrom W1.heap.size W₂ wr ∧ KeptT notB W₂ wr ∧ W₂.heap.size ≤ wr.heap.size) (fun vi _ => row.length + 1 - (intOf vi).toNat)
    case atStart => exact ⟨0, Nat.zero_le _, rfl, HTX6.out, HW6.out, HK6.out, HS6.out⟩
    case round =>
      obtain ⟨k, hk, rfl, htx, hkf, hkt, hsw⟩ := hrel
      have HT := Lib.hid htx
      have HF := Lib.hid hkf
      have HKT := Lib.hid hkt
      clear htx hkf hkt HTX6 HW6 HK6 HS6 d9
      by_cases hkl : k < row.length
      · have hkl' : (k : Int) < row.length := by omega
        have hge := fresh_get (HX2.out.keptT (p := notB) ⟨by decide, by decide⟩ HKT.out) k hkl
        have hv := HRV.out _ (List.getElem_mem hkl)
        rw [gi_eq hkl] at hv
        have c4 := HT.out.fb.cell 0
        have hps := putL_size s1 (row.take k)
        have htk : (row.take k).length = k := by rw [List.length_take]; omega
        have PC := Lib.hid (HT.out.put (gi row k) hv (by omega))
        have HN := Lib.hid (show putL s1 (row.take (k + 1)) = putL s1 (row.take k) ++ numI (gi row k) by
          rw [List.take_succ_eq_append_getElem hkl, putL_snoc, gi_eq hkl])
        clear hps htk hv
        generalize gi row k = xk at *
        gi_wp2
        refine ⟨trivial, (CallsIn.inRound l (callsIn_wide.2 PC.out)).mono ?_⟩
        rintro e w7 ⟨rfl, hc7, hw7⟩
        have HT7 := Lib.hid hc7
        have HF7 := Lib.hid (HF.out.trans (wr_from hw7 _))
        have HK7 := Lib.hid (HKT.out.trans (wr_kept hw7 HT.out.at_))
        have HS7 := Lib.hid (Nat.le_trans hsw hw7.below.size)
        clear hc7 hw7 PC
        gi_wp2
        go_roundw
        case rel => exact ⟨k + 1, by omega, by go_num, by rw [HN.out]; exact HT7.out, HF7.out, HK7.out, HS7.out⟩
        case measure => simp [intOf]; omega
      · have hkl' : (row.length : Int) ≤ k := by omega
        gi_wp2
        refine ⟨HF.out, HS.out.keptT bookTs_notB HKT.out hsw, ?_, ?_⟩
        · rw [List.map_append, List.map_singleton, rowsT_snoc, HZ0.out]
          have h := HT.out
          rw [List.take_of_length_le (by omega), ← HZ1.out] at h
          exact h
        · intro r hr
          rw [List.map_append, List.map_singleton] at hr
          rcases List.mem_append.1 hr with h | h
          · exact HR16I.out r h
          · obtain rfl : r = row := by simpa using h
            exact hr16
  case done =>
    intro D xs Wd hD hS hi hKd
    have HI := Lib.hid hi
    have HKD := Lib.hid hKd
    have hxs : Hid (xs.map (·.2) = rows) := Lib.hid (by rw [hS, Int.sub_self]; rfl)
    have HT : Hid (TxC w N g base rows (txt base rows) Wd) := Lib.hid (by have h := hi.tx; rw [hxs.out] at h; exact h)
    have hne : (txt base rows).data.toList ≠ [] := by
      intro e
      have h1 := (rowsT_size (headT base rows.length) rows (fun r hr => (HR16.out r hr).1)).1
      have h2 := (headT_size base rows.length).1
      have h3 : (txt base rows).size = 0 := by
        show (txt base rows).data.size = 0
        rw [← Array.length_toList, e]
        rfl
      unfold txt at h3
      omega
    have SC := Lib.hid (Sc.string_calls w.heap.size w.heap.size (txt base rows).data.toList Wd HT.out.at_ hne)
    clear hi hKd hS HI0
    go_wp2_with fail
    (with_reducible refine SC.out.mono ?_)
    rintro e w6 ⟨rfl, hb6, ho6⟩
    have HK6 := Lib.hid (ho6 _ _ HKD.out rfl)
    have HB6 := Lib.hid (HT.out.bl.trans hb6)
    clear hb6 ho6 SC
    go_wp2_with fail
    refine ⟨by simp, .inl ⟨_, _, rfl, run_takeDeferred HK6.out, ?_⟩⟩
    refine ⟨.string ⟨(txt base rows).data.toList.toArray⟩, by simp [results, Try.results27, go_sem], rfl, ?_⟩
    exact mod_trn (Mod.of_below HB6.out) (by omega) (Rg.Trn.turn (D := W1.heap.size) _ hD HK6.out rfl)
  case stop => intro _ _ _ _ _ _ h _; exact h.elim
end Go.Proofs.Ytceocpohdckkoaa.Bx
