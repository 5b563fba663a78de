/- What message a text says: the program's Read. (Printed by mkRa9.py.) -/
import Derived.Test.YtgmenlfhkhdbdaaRa8
import Derived.Test.YtgmenlfhkhdbdaaRow
namespace Go.Proofs.Ytgmenlfhkhdbdaa.Ra
open Go.RowKit Mem Bits
set_option linter.unusedSimpArgs false
set_option linter.unusedVariables false
set_option maxRecDepth 100000

abbrev zc : Array Value := #[.int .i64 0, .int .i64 0, .int .i64 0, .int .i64 0, .int .i64 0, .int .i64 0, .int .i64 0, .bool false, .slice none 0 0, .int .i64 0, .int .i64 0, .int .i64 0, .string ⟨#[]⟩]
/-- Before the message is made: the result at r, the tape at g, the array at a. -/
structure R1 (w : World) (r g a : Nat) (p : Tp) (ls : List Int) (W : World) : Prop where
  md : Mod w W []
  r0 : w.heap.size ≤ r
  g0 : w.heap.size ≤ g
  a0 : w.heap.size ≤ a
  br : Blk W r zc 33
  tp : TpAt W g p
  ba : Blk W a (ls.map (Value.int .i64)).toArray 64
theorem mod_new {w A B : World} {g : Nat} (h : Mod w A []) (m : Mod A B [g]) (hg : w.heap.size ≤ g) : Mod w B [] := h.trans m (by intro r hr; simp only [List.mem_singleton] at hr; subst hr; exact .inr hg)
theorem R1.mod {w : World} {r g a : Nat} {p : Tp} {ls : List Int} {A B : World} (h : R1 w r g a p ls A) (m : Mod A B []) : R1 w r g a p ls B :=
  ⟨h.md.trans0 m, h.r0, h.g0, h.a0, h.br.mod m (by simp), Blk.mod h.tp m (by simp), h.ba.mod m (by simp)⟩
theorem R1.step {w : World} {r g a : Nat} {p q : Tp} {ls : List Int} {A B : World} (h : R1 w r g a p ls A) (m : Mod A B [g]) (t : TpAt B g q) : R1 w r g a q ls B :=
  ⟨mod_new h.md m h.g0, h.r0, h.g0, h.a0, h.br.mod m (by simpa using blk_ne h.br h.tp (by decide)), t, h.ba.mod m (by simpa using blk_ne h.ba h.tp (by decide))⟩
theorem R1.put {w : World} {r g a : Nat} {p : Tp} {ls : List Int} {A : World} (h : R1 w r g a p ls A) (i : Nat) (x : Int) : R1 w r g a p (ls.set i x) (A.setCell ⟨a, i, none⟩ (.int .i64 x)) :=
  ⟨h.md.setCell (p := ⟨a, i, none⟩) (.inr h.a0) _, h.r0, h.g0, h.a0, h.br.far (p := ⟨a, i, none⟩) (blk_ne h.br h.ba (by decide)) _, Blk.far h.tp (p := ⟨a, i, none⟩) (blk_ne h.tp h.ba (by decide)) _, by
    have := h.ba.set i (.int .i64 x)
    rwa [List.setIfInBounds_toArray, ← List.map_set] at this⟩
def rowE (x : En) : List Value := [.int .i64 x.t, .int .i64 x.k, .int .i64 x.m, .string x.x]
def rowsE (l : List En) : List Value := l.flatMap rowE
theorem rowsE_snoc (l : List En) (x : En) : rowsE (l ++ [x]) = rowsE l ++ rowE x := by simp [rowsE]
/-- Behind: the message at m. -/
structure R2 (w : World) (r g m : Nat) (p : Tp) (mc : Array Value) (v : Value) (es : List En) (W : World) : Prop where
  md : Mod w W []
  r0 : w.heap.size ≤ r
  rm : r < m
  g0 : w.heap.size ≤ g
  gm : g < m
  br : Blk W r zc 33
  bm : Blk W m mc 33
  tp : TpAt W g p
  ow : W.ownsRow (m + 1) 77 4 v es.length (rowsE es)
theorem R2.mod {w : World} {r g m : Nat} {p : Tp} {mc : Array Value} {v : Value} {es : List En} {A B : World} (h : R2 w r g m p mc v es A) (k : Mod A B []) : R2 w r g m p mc v es B :=
  ⟨h.md.trans0 k, h.r0, h.rm, h.g0, h.gm, h.br.mod k (by simp), h.bm.mod k (by simp), Blk.mod h.tp k (by simp), own_mod h.ow k (by simp)⟩
theorem R2.step {w : World} {r g m : Nat} {p q : Tp} {mc : Array Value} {v : Value} {es : List En} {A B : World} (h : R2 w r g m p mc v es A) (k : Mod A B [g]) (t : TpAt B g q) : R2 w r g m q mc v es B :=
  ⟨mod_new h.md k h.g0, h.r0, h.rm, h.g0, h.gm, h.br.mod k (by simpa using blk_ne h.br h.tp (by decide)), h.bm.mod k (by simpa using blk_ne h.bm h.tp (by decide)), t, own_mod h.ow k (fun j hj => by have := own_ge h.ow j hj; have := h.gm; simp only [List.mem_singleton]; omega)⟩
theorem R2.set {w : World} {r g m : Nat} {p : Tp} {mc : Array Value} {v : Value} {es : List En} {A : World} (h : R2 w r g m p mc v es A) (i : Nat) (u : Value) : R2 w r g m p (mc.setIfInBounds i u) v es (A.setCell ⟨m, i, none⟩ u) :=
  ⟨h.md.setCell (p := ⟨m, i, none⟩) (.inr (by have := h.r0; have := h.rm; show w.heap.size ≤ m; omega)) _, h.r0, h.rm, h.g0, h.gm, h.br.far (p := ⟨m, i, none⟩) (by have := h.rm; show r ≠ m; omega) _, h.bm.set i u, Blk.far h.tp (p := ⟨m, i, none⟩) (by have := h.gm; show g ≠ m; omega) _,
    own_mod h.ow ((Mod.refl A [m]).setCell (p := ⟨m, i, none⟩) (.inl (by simp)) u) (fun j hj => by have := own_ge h.ow j hj; simp only [List.mem_singleton]; omega)⟩
theorem R2.start {w : World} {r g a m : Nat} {p : Tp} {ls : List Int} {mc : Array Value} {A : World} (h : R1 w r g a p ls A) (hb : Blk A m mc 33) (h1 : r < m) (h2 : g < m) : R2 w r g m p mc (.slice none 0 0) [] A :=
  ⟨h.md, h.r0, h1, h.g0, h2, h.br, hb, h.tp, rfl, .inl ⟨rfl, rfl⟩⟩
theorem R2.put13 {w : World} {r g m : Nat} {p : Tp} {v : Value} {es : List En} {A : World} {c0 c1 c2 c3 c4 c5 c6 c7 c8 c9 c10 c11 c12 : Value} (h : R2 w r g m p #[c0, c1, c2, c3, c4, c5, c6, c7, c8, c9, c10, c11, c12] v es A) (b0 b1 b2 b3 b4 b5 b6 b7 b8 b9 b10 b11 b12 : Value) : R2 w r g m p #[b0, b1, b2, b3, b4, b5, b6, b7, b8, b9, b10, b11, b12] v es (((((((((((((A.setCell ⟨m, 0, none⟩ b0).setCell ⟨m, 1, none⟩ b1).setCell ⟨m, 2, none⟩ b2).setCell ⟨m, 3, none⟩ b3).setCell ⟨m, 4, none⟩ b4).setCell ⟨m, 5, none⟩ b5).setCell ⟨m, 6, none⟩ b6).setCell ⟨m, 7, none⟩ b7).setCell ⟨m, 8, none⟩ b8).setCell ⟨m, 9, none⟩ b9).setCell ⟨m, 10, none⟩ b10).setCell ⟨m, 11, none⟩ b11).setCell ⟨m, 12, none⟩ b12) := by
  have := (((((((((((((h.set 0 b0).set 1 b1).set 2 b2).set 3 b3).set 4 b4).set 5 b5).set 6 b6).set 7 b7).set 8 b8).set 9 b9).set 10 b10).set 11 b11).set 12 b12)
  simpa using this
theorem R2.set8 {w : World} {r g m : Nat} {p : Tp} {v : Value} {es : List En} {A : World} {c0 c1 c2 c3 c4 c5 c6 c7 c8 c9 c10 c11 c12 : Value} (h : R2 w r g m p #[c0, c1, c2, c3, c4, c5, c6, c7, c8, c9, c10, c11, c12] v es A) (u : Value) : R2 w r g m p #[c0, c1, c2, c3, c4, c5, c6, c7, u, c9, c10, c11, c12] v es (A.setCell ⟨m, 8, none⟩ u) := by
  have := h.set 8 u
  simpa using this
theorem R2.put4 {w : World} {r g m : Nat} {p : Tp} {v : Value} {es : List En} {A : World} {c0 c1 c2 c3 c4 c5 c6 c7 c8 c9 c10 c11 c12 : Value} (h : R2 w r g m p #[c0, c1, c2, c3, c4, c5, c6, c7, c8, c9, c10, c11, c12] v es A) (u9 u10 u11 u12 : Value) : R2 w r g m p #[c0, c1, c2, c3, c4, c5, c6, c7, c8, u9, u10, u11, u12] v es ((((A.setCell ⟨m, 9, none⟩ u9).setCell ⟨m, 10, none⟩ u10).setCell ⟨m, 11, none⟩ u11).setCell ⟨m, 12, none⟩ u12) := by
  have := (((h.set 9 u9).set 10 u10).set 11 u11).set 12 u12
  simpa using this
theorem R2.app {w : World} {r g m : Nat} {p : Tp} {mc : Array Value} {v v' : Value} {es : List En} {x : En} {A B : World} (h : R2 w r g m p mc v es A) (hg : A.grownBy B v.ownBlock) (ho : B.ownsRow (m + 1) 77 4 v' (es.length + 1) (rowsE es ++ rowE x)) : R2 w r g m p mc v' (es ++ [x]) B := by
  have hne : ∀ k, k ≤ m → some k ≠ v.ownBlock := fun k hk e => by have := own_ge h.ow k e.symm; omega
  have h1 := h.r0
  have h2 := h.rm
  have h3 := h.gm
  refine ⟨h.md.grown hg (fun k hk => .inr (by have := own_ge h.ow k hk; omega)), h.r0, h.rm, h.g0, h.gm, Rw.blk_grown h.br hg (hne _ (by omega)), Rw.blk_grown h.bm hg (hne _ (by omega)), Rw.blk_grown h.tp hg (hne _ (by omega)), ?_⟩
  rw [List.length_append, rowsE_snoc]
  exact ho
theorem info_en : (Try.prog.info? 77).map (fun i => (i.zero, i.size, i.bytes)) = some (some (.agg #[.int .i64 0, .int .i64 0, .int .i64 0, .string ⟨#[]⟩]), 4, 40) := by kernel_rfl
theorem ensV_own {w : World} {base : Nat} {v : Value} {l : List En} (h : w.ownsRow base 77 4 v l.length (rowsE l)) : EnsV w v l := by
  rcases Rw.own_cellN h with ⟨h1, h2, _⟩ | ⟨g, cap, h1, _, h3, _, h5, h6⟩
  · have : l = [] := List.eq_nil_of_length_eq_zero h2
    subst this
    exact ⟨none, 0, h1, Nat.le_refl _, .inl rfl⟩
  · refine ⟨_, cap, h1, h3, .inr ⟨g, 0, rfl, fun i hi => ?_⟩⟩
    have hf : ∀ c, c < 4 → w.cell? ⟨g, i * 4 + c, none⟩ = (rowE l[i])[c]? := fun c hc => by
      have hr : rowsE l = (l.map rowE).flatten := by unfold rowsE; rw [List.flatMap_def]
      have hlen : (rowsE l).length = l.length * 4 := h5
      rw [h6 (i * 4 + c) (by omega)]
      have := Rw.flat_get (n := 4) (l.map rowE) i c (by intro r hr; obtain ⟨x, _, rfl⟩ := List.mem_map.1 hr; rfl) (by simpa using hi) hc
      rw [← hr, List.getElem_map] at this
      rw [← this, List.getElem?_eq_getElem (by omega)]
    rw [Nat.zero_add]
    exact ⟨by have := hf 0 (by decide); simpa [rowE] using this, by have := hf 1 (by decide); simpa [rowE] using this, by have := hf 2 (by decide); simpa [rowE] using this, by have := hf 3 (by decide); simpa [rowE] using this⟩
theorem set_front' (l : List Int) (m : Nat) (x : Int) : (l ++ List.replicate (m + 1) (0 : Int)).set l.length x = (l ++ [x]) ++ List.replicate m 0 := by
  rw [List.set_append_right _ _ (Nat.le_refl _), Nat.sub_self, List.replicate_succ, List.set_cons_zero, List.append_assoc]
  rfl
theorem alen7 : Try.prog.arrayLen 64 = 7 := by kernel_rfl
theorem ael7 : Try.prog.elem 64 = 3 := by kernel_rfl
def ReadP (w : World) (s : ByteArray) (e : Ending) (w' : World) : Prop :=
  ∃ v, e = .returned (.tuple #[msV (readS s) v, .int .i64 (if readOk s = true then 0 else 3)]) ∧ Mod w w' [] ∧ w'.ownsRow w.heap.size 77 4 v (readS s).es.length (rowsE (readS s).es)
set_option maxHeartbeats 16000000 in
theorem read_calls (s : ByteArray) (w : World) (hs : s.size ≤ 1000000000) : Calls Try.prog 38 #[.string s] w (ReadP w s) := by
  have AC := Lib.hid (fun w => at_calls s w)
  go_enter Try.func38, Try.ntmps38
  go_wp2_with fail
  (with_reducible refine (AC.out _).mono ?_)
  rintro e w2 ⟨rfl, hm2, ht2⟩
  have HI : Hid (R1 w w.heap.size (w.heap.size + 1) w2.heap.size (s, 0) (List.replicate 7 0) (w2.alloc (.cells #[.int .i64 0, .int .i64 0, .int .i64 0, .int .i64 0, .int .i64 0, .int .i64 0, .int .i64 0] 64))) := Lib.hid (by
    have hm := (((Mod.refl w []).alloc (.cells zc 33)).trans0 hm2)
    have hb := (Blk.new w zc 33).mod hm2 (by simp)
    rw [World.size_alloc] at ht2
    exact ⟨hm.alloc _, Nat.le_refl _, Nat.le_succ _, hm.size, hb.alloc _, Blk.alloc ht2 _, Blk.new _ _ _⟩)
  have hz2 : w.heap.size + 1 < w2.heap.size := by have := ht2.lt; simp at this; exact this
  simp only [World.size_alloc]
  clear hm2 ht2 AC
  go_upto_region 3 with (fail)
  generalize ha : w2.heap.size = a at *
  generalize w2.alloc _ = w3 at *
  clear ha
  have A7 := alen7
  have E7 := ael7
  go_wp2_with fail
  go_loopw [18] (fun vi wr => ∃ i : Nat, i ≤ 7 ∧ vi = .int .i64 (i : Int) ∧ R1 w w.heap.size (w.heap.size + 1) a (nvs (s, 0) i).2 ((nvs (s, 0) i).1 ++ List.replicate (7 - i) 0) wr) (fun vi _ => 8 - (intOf vi).toNat)
  case atStart => exact ⟨0, by omega, rfl, HI.out⟩
  case round =>
    obtain ⟨i, hi, rfl, hr⟩ := hrel
    have HR := Lib.hid hr
    clear hr HI
    have hsz := nvs_size (s, 0) i
    simp only at hsz
    by_cases hlt : i < 7
    · have NC := Lib.hid (numb_calls (w.heap.size + 1) (nvs (s, 0) i).2 wr (by omega) HR.out.tp)
      have hlt' : (i : Int) < 7 := by omega
      have hi0 : (0 : Int) ≤ i := by omega
      go_wp2_with fail
      (with_reducible refine (NC.out).mono ?_)
      rintro e w4 ⟨rfl, hm4, ht4⟩
      have HR4 := Lib.hid (HR.out.step hm4 ht4)
      clear hm4 ht4 NC HR
      have f4 := HR4.out.ba.free i
      have c4 : w4.cell? ⟨a, i, none⟩ = some (.int .i64 0) := by
        rw [HR4.out.ba.cell, List.getElem?_toArray, List.getElem?_map, List.getElem?_append_right (by rw [nvs_len]; omega), nvs_len, List.getElem?_replicate, if_pos (by omega)]
        rfl
      have HR5 := Lib.hid (HR4.out.put i (nv (nvs (s, 0) i).2))
      have HL : Hid (((nvs (s, 0) i).1 ++ List.replicate (7 - i) 0).set i (nv (nvs (s, 0) i).2) = (nvs (s, 0) (i + 1)).1 ++ List.replicate (7 - (i + 1)) 0) := Lib.hid (by
        have := set_front' (nvs (s, 0) i).1 (7 - (i + 1)) (nv (nvs (s, 0) i).2)
        rw [nvs_len, show 7 - (i + 1) + 1 = 7 - i by omega] at this
        exact this)
      rw [HL.out] at HR5
      clear HL HR4
      go_wp2_with fail
      go_roundw
      case rel => exact ⟨i + 1, by omega, by go_num, HR5.out⟩
      case measure => simp [intOf]; omega
    · obtain rfl : i = 7 := by omega
      replace HR : Hid (R1 w w.heap.size (w.heap.size + 1) a (q7 s) [nv (s, 0), nv (nx (s, 0)), nv (nx (nx (s, 0))), nv (nx (nx (nx (s, 0)))), nv (nx (nx (nx (nx (s, 0))))), nv (nx (nx (nx (nx (nx (s, 0)))))), nv (nx (nx (nx (nx (nx (nx (s, 0))))))) ] wr) := HR
      replace hsz : (q7 s).1.size ≤ s.size := hsz
      have HRM : Hid (readM s = ⟨nv (s, 0), nv (nx (s, 0)), nv (nx (nx (s, 0))), nv (nx (nx (nx (s, 0)))), nv (nx (nx (nx (nx (s, 0))))), nv (nx (nx (nx (nx (nx (s, 0)))))), nv (nx (nx (nx (nx (nx (nx (s, 0))))))),
        (flagR (q7 s).1 (q7 s).2).1, (rdEs (pE s) (cE s)).1, nv (aE s), nv (nx (aE s)), nv (nx (nx (aE s))), (textR (nx (nx (nx (aE s)))).1 (nx (nx (nx (aE s)))).2 262144).1⟩) := Lib.hid rfl
      generalize nv (s, 0) = a0 at *
      generalize nv (nx (s, 0)) = a1 at *
      generalize nv (nx (nx (s, 0))) = a2 at *
      generalize nv (nx (nx (nx (s, 0)))) = a3 at *
      generalize nv (nx (nx (nx (nx (s, 0))))) = a4 at *
      generalize nv (nx (nx (nx (nx (nx (s, 0)))))) = a5 at *
      generalize nv (nx (nx (nx (nx (nx (nx (s, 0))))))) = a6 at *
      have FC := Lib.hid (fun W (h : TpAt W (w.heap.size + 1) (q7 s)) => Flag_calls (w.heap.size + 1) (q7 s).1 (q7 s).2 W (by omega) h)
      have hsf := fx_size (q7 s)
      have HF : Hid (∀ W, TapeAt W (w.heap.size + 1) (flagR (q7 s).1 (q7 s).2).2.1 (flagR (q7 s).1 (q7 s).2).2.2 → TpAt W (w.heap.size + 1) (fx (q7 s))) := Lib.hid (fun W h => h)
      generalize (flagR (q7 s).1 (q7 s).2).1 = y at *
      have hal := HR.out.ba.lt
      go_upto_region 8 with (fail)
      go_cut [7] (fun s7 wx => ∃ m, s7 = .pointer (some ⟨m, 0, none⟩) ∧ R2 w w.heap.size (w.heap.size + 1) m (fx (q7 s)) #[.int .i64 a0, .int .i64 a1, .int .i64 a2, .int .i64 a3, .int .i64 a4, .int .i64 a5, .int .i64 a6, .bool y, .slice none 0 0, .int .i64 0, .int .i64 0, .int .i64 0, .string ⟨#[]⟩] (.slice none 0 0) [] wx)
      case first =>
        refine He.wp_region_e 18 (fun w' => w'.cell? ⟨a, 0, none⟩ = some (.int .i64 a0) ∧ w'.cell? ⟨a, 1, none⟩ = some (.int .i64 a1) ∧ w'.cell? ⟨a, 2, none⟩ = some (.int .i64 a2) ∧ w'.cell? ⟨a, 3, none⟩ = some (.int .i64 a3) ∧ w'.cell? ⟨a, 4, none⟩ = some (.int .i64 a4) ∧ w'.cell? ⟨a, 5, none⟩ = some (.int .i64 a5) ∧ w'.cell? ⟨a, 6, none⟩ = some (.int .i64 a6)) (by kernel_rfl) ⟨HR.out.ba.cell 0, HR.out.ba.cell 1, HR.out.ba.cell 2, HR.out.ba.cell 3, HR.out.ba.cell 4, HR.out.ba.cell 5, HR.out.ba.cell 6⟩ (fun S0 => ?_)
        have HRd := Lib.hid (HR.out.mod ((Mod.refl wr []).drew))
        have hal : a < wr.drew.heap.size := hal
        clear HR
        generalize wr.drew = wd at *
        refine He.wpE_take (i := 0) (v := ?_) rfl (by kernel_rfl) (by kernel_rfl) (by kernel_rfl) (by kernel_rfl) (by kernel_rfl) (fun _ _ _ h => h) (by rfl) ?_ (by assumption) ?_
        rotate_left
        · (intro w' hSw; (try dsimp only at hSw); go_simp; first | done | with_reducible rfl)
        try simp only [List.getElem_toArray, List.getElem_cons_succ, List.getElem_cons_zero, Act.put, List.setIfInBounds_toArray, List.set_cons_zero, List.set_cons_succ]
        refine He.wpE_take (i := 1) (v := ?_) rfl (by kernel_rfl) (by kernel_rfl) (by kernel_rfl) (by kernel_rfl) (by kernel_rfl) (fun _ _ _ h => h) (by rfl) ?_ (by assumption) ?_
        rotate_left
        · (intro w' hSw; (try dsimp only at hSw); go_simp; first | done | with_reducible rfl)
        try simp only [List.getElem_toArray, List.getElem_cons_succ, List.getElem_cons_zero, Act.put, List.setIfInBounds_toArray, List.set_cons_zero, List.set_cons_succ]
        refine He.wpE_take (i := 2) (v := ?_) rfl (by kernel_rfl) (by kernel_rfl) (by kernel_rfl) (by kernel_rfl) (by kernel_rfl) (fun _ _ _ h => h) (by rfl) ?_ (by assumption) ?_
        rotate_left
        · (intro w' hSw; (try dsimp only at hSw); go_simp; first | done | with_reducible rfl)
        try simp only [List.getElem_toArray, List.getElem_cons_succ, List.getElem_cons_zero, Act.put, List.setIfInBounds_toArray, List.set_cons_zero, List.set_cons_succ]
        refine He.wpE_take (i := 3) (v := ?_) rfl (by kernel_rfl) (by kernel_rfl) (by kernel_rfl) (by kernel_rfl) (by kernel_rfl) (fun _ _ _ h => h) (by rfl) ?_ (by assumption) ?_
        rotate_left
        · (intro w' hSw; (try dsimp only at hSw); go_simp; first | done | with_reducible rfl)
        try simp only [List.getElem_toArray, List.getElem_cons_succ, List.getElem_cons_zero, Act.put, List.setIfInBounds_toArray, List.set_cons_zero, List.set_cons_succ]
        refine He.wpE_take (i := 4) (v := ?_) rfl (by kernel_rfl) (by kernel_rfl) (by kernel_rfl) (by kernel_rfl) (by kernel_rfl) (fun _ _ _ h => h) (by rfl) ?_ (by assumption) ?_
        rotate_left
        · (intro w' hSw; (try dsimp only at hSw); go_simp; first | done | with_reducible rfl)
        try simp only [List.getElem_toArray, List.getElem_cons_succ, List.getElem_cons_zero, Act.put, List.setIfInBounds_toArray, List.set_cons_zero, List.set_cons_succ]
        refine He.wpE_take (i := 5) (v := ?_) rfl (by kernel_rfl) (by kernel_rfl) (by kernel_rfl) (by kernel_rfl) (by kernel_rfl) (fun _ _ _ h => h) (by rfl) ?_ (by assumption) ?_
        rotate_left
        · (intro w' hSw; (try dsimp only at hSw); go_simp; first | done | with_reducible rfl)
        try simp only [List.getElem_toArray, List.getElem_cons_succ, List.getElem_cons_zero, Act.put, List.setIfInBounds_toArray, List.set_cons_zero, List.set_cons_succ]
        refine He.wpE_take (i := 6) (v := ?_) rfl (by kernel_rfl) (by kernel_rfl) (by kernel_rfl) (by kernel_rfl) (by kernel_rfl) (fun _ _ _ h => h) (by rfl) ?_ (by assumption) ?_
        rotate_left
        · (intro w' hSw; (try dsimp only at hSw); go_simp; first | done | with_reducible rfl)
        try simp only [List.getElem_toArray, List.getElem_cons_succ, List.getElem_cons_zero, Act.put, List.setIfInBounds_toArray, List.set_cons_zero, List.set_cons_succ]
        refine He.wpE_take (i := 7) (v := ?_) rfl (by kernel_rfl) (by kernel_rfl) (by kernel_rfl) (by kernel_rfl) (by kernel_rfl) (fun _ _ _ h => h) (by rfl) ?_ (by assumption) ?_
        rotate_left
        · (intro w' hSw; (try dsimp only at hSw); go_simp; first | done | with_reducible rfl)
        try simp only [List.getElem_toArray, List.getElem_cons_succ, List.getElem_cons_zero, Act.put, List.setIfInBounds_toArray, List.set_cons_zero, List.set_cons_succ]
        refine He.wpE_take (i := 8) (v := ?_) rfl (by kernel_rfl) (by kernel_rfl) (by kernel_rfl) (by kernel_rfl) (by kernel_rfl) (fun _ _ _ h => h) (by rfl) ?_ (by assumption) ?_
        rotate_left
        · (intro w' hSw; (try dsimp only at hSw); go_simp; first | done | with_reducible rfl)
        try simp only [List.getElem_toArray, List.getElem_cons_succ, List.getElem_cons_zero, Act.put, List.setIfInBounds_toArray, List.set_cons_zero, List.set_cons_succ]
        refine He.wpE_take (i := 9) (v := ?_) rfl (by kernel_rfl) (by kernel_rfl) (by kernel_rfl) (by kernel_rfl) (by kernel_rfl) (fun _ _ _ h => h) (by rfl) ?_ (by assumption) ?_
        rotate_left
        · (intro w' hSw; (try dsimp only at hSw); go_simp; first | done | with_reducible rfl)
        try simp only [List.getElem_toArray, List.getElem_cons_succ, List.getElem_cons_zero, Act.put, List.setIfInBounds_toArray, List.set_cons_zero, List.set_cons_succ]
        refine He.wpE_take (i := 10) (v := ?_) rfl (by kernel_rfl) (by kernel_rfl) (by kernel_rfl) (by kernel_rfl) (by kernel_rfl) (fun _ _ _ h => h) (by rfl) ?_ (by assumption) ?_
        rotate_left
        · (intro w' hSw; (try dsimp only at hSw); go_simp; first | done | with_reducible rfl)
        try simp only [List.getElem_toArray, List.getElem_cons_succ, List.getElem_cons_zero, Act.put, List.setIfInBounds_toArray, List.set_cons_zero, List.set_cons_succ]
        refine He.wpE_take (i := 11) (v := ?_) rfl (by kernel_rfl) (by kernel_rfl) (by kernel_rfl) (by kernel_rfl) (by kernel_rfl) (fun _ _ _ h => h) (by rfl) ?_ (by assumption) ?_
        rotate_left
        · (intro w' hSw; (try dsimp only at hSw); go_simp; first | done | with_reducible rfl)
        try simp only [List.getElem_toArray, List.getElem_cons_succ, List.getElem_cons_zero, Act.put, List.setIfInBounds_toArray, List.set_cons_zero, List.set_cons_succ]
        refine He.wpE_take (i := 12) (v := ?_) rfl (by kernel_rfl) (by kernel_rfl) (by kernel_rfl) (by kernel_rfl) (by kernel_rfl) (fun _ _ _ h => h) (by rfl) ?_ (by assumption) ?_
        rotate_left
        · (intro w' hSw; (try dsimp only at hSw); go_simp; first | done | with_reducible rfl)
        try simp only [List.getElem_toArray, List.getElem_cons_succ, List.getElem_cons_zero, Act.put, List.setIfInBounds_toArray, List.set_cons_zero, List.set_cons_succ]
        refine He.wpE_take (i := 13) (v := ?_) rfl (by kernel_rfl) (by kernel_rfl) (by kernel_rfl) (by kernel_rfl) (by kernel_rfl) (fun _ _ _ h => h) (by rfl) ?_ (by assumption) ?_
        rotate_left
        · (intro w' hSw; (try dsimp only at hSw); go_simp; first | done | with_reducible rfl)
        try simp only [List.getElem_toArray, List.getElem_cons_succ, List.getElem_cons_zero, Act.put, List.setIfInBounds_toArray, List.set_cons_zero, List.set_cons_succ]
        refine He.wpE_take (i := 14) (v := ?_) rfl (by kernel_rfl) (by kernel_rfl) (by kernel_rfl) (by kernel_rfl) (by kernel_rfl) (fun _ _ _ h => h) (by rfl) ?_ (by assumption) ?_
        rotate_left
        · (intro w' hSw; (try dsimp only at hSw); go_simp; first | done | with_reducible rfl)
        try simp only [List.getElem_toArray, List.getElem_cons_succ, List.getElem_cons_zero, Act.put, List.setIfInBounds_toArray, List.set_cons_zero, List.set_cons_succ]
        refine He.wpE_two (i := 15) (j := 17) (by kernel_rfl) rfl rfl (by rfl) (by rfl) (fun K hK => ?_) (fun K hK => ?_)
        · go_simp
          (with_reducible refine (FC.out _ ?_).mono ?_)
          · exact HRd.out.tp
          rintro e wf ⟨rfl, hmf, htf⟩
          have HRf := Lib.hid (HRd.out.step hmf (HF.out _ htf))
          have S1 : wf.cell? ⟨a, 0, none⟩ = some (.int .i64 a0) ∧ wf.cell? ⟨a, 1, none⟩ = some (.int .i64 a1) ∧ wf.cell? ⟨a, 2, none⟩ = some (.int .i64 a2) ∧ wf.cell? ⟨a, 3, none⟩ = some (.int .i64 a3) ∧ wf.cell? ⟨a, 4, none⟩ = some (.int .i64 a4) ∧ wf.cell? ⟨a, 5, none⟩ = some (.int .i64 a5) ∧ wf.cell? ⟨a, 6, none⟩ = some (.int .i64 a6) := ⟨HRf.out.ba.cell 0, HRf.out.ba.cell 1, HRf.out.ba.cell 2, HRf.out.ba.cell 3, HRf.out.ba.cell 4, HRf.out.ba.cell 5, HRf.out.ba.cell 6⟩
          have halx : a < wf.heap.size := HRf.out.ba.lt
          refine hK.out _ _ (fun _ => S1) ?_
          clear hK K hmf htf S0 HRd
          try simp only [Act.put, List.setIfInBounds_toArray, List.set_cons_zero, List.set_cons_succ]
          refine He.wpE_take (i := 16) (v := ?_) rfl (by kernel_rfl) (by kernel_rfl) (by kernel_rfl) (by kernel_rfl) (by kernel_rfl) (fun _ _ _ h => h) (by rfl) ?_ (by assumption) ?_
          rotate_left
          · (intro w' hSw; (try dsimp only at hSw); go_simp; first | done | with_reducible rfl)
          try simp only [List.getElem_toArray, List.getElem_cons_succ, List.getElem_cons_zero, Act.put, List.setIfInBounds_toArray, List.set_cons_zero, List.set_cons_succ]
          refine He.wpE_one (i := 17) (by kernel_rfl) rfl (by rfl) (fun K hK => ?_)
          go_simp
          have HZ := Lib.hid (Blk.new wf zc 33)
          have HRz := Lib.hid (HRf.out.mod ((Mod.refl wf []).alloc (.cells zc 33)))
          have hlr : w.heap.size < wf.heap.size := by omega
          have hlg : w.heap.size + 1 < wf.heap.size := by omega
          generalize hm : wf.heap.size = m at *
          generalize hwz : wf.alloc _ = wz at *
          have S2 : wz.cell? ⟨a, 0, none⟩ = some (.int .i64 a0) ∧ wz.cell? ⟨a, 1, none⟩ = some (.int .i64 a1) ∧ wz.cell? ⟨a, 2, none⟩ = some (.int .i64 a2) ∧ wz.cell? ⟨a, 3, none⟩ = some (.int .i64 a3) ∧ wz.cell? ⟨a, 4, none⟩ = some (.int .i64 a4) ∧ wz.cell? ⟨a, 5, none⟩ = some (.int .i64 a5) ∧ wz.cell? ⟨a, 6, none⟩ = some (.int .i64 a6) := ⟨HRz.out.ba.cell 0, HRz.out.ba.cell 1, HRz.out.ba.cell 2, HRz.out.ba.cell 3, HRz.out.ba.cell 4, HRz.out.ba.cell 5, HRz.out.ba.cell 6⟩
          refine hK.out _ _ (fun _ => S2) ?_
          clear hK K hwz hm S1 HRf
          try simp only [Act.put, List.setIfInBounds_toArray, List.set_cons_zero, List.set_cons_succ]
          refine He.wpE_one (i := 18) (by kernel_rfl) rfl (by rfl) (fun K hK => ?_)
          have z0 := HZ.out.cell 0
          have f0 := HZ.out.free 0
          have z1 := HZ.out.cell 1
          have f1 := HZ.out.free 1
          have z2 := HZ.out.cell 2
          have f2 := HZ.out.free 2
          have z3 := HZ.out.cell 3
          have f3 := HZ.out.free 3
          have z4 := HZ.out.cell 4
          have f4 := HZ.out.free 4
          have z5 := HZ.out.cell 5
          have f5 := HZ.out.free 5
          have z6 := HZ.out.cell 6
          have f6 := HZ.out.free 6
          have z7 := HZ.out.cell 7
          have f7 := HZ.out.free 7
          have z8 := HZ.out.cell 8
          have f8 := HZ.out.free 8
          have z9 := HZ.out.cell 9
          have f9 := HZ.out.free 9
          have z10 := HZ.out.cell 10
          have f10 := HZ.out.free 10
          have z11 := HZ.out.cell 11
          have f11 := HZ.out.free 11
          have z12 := HZ.out.cell 12
          have f12 := HZ.out.free 12
          go_simp
          refine hK.out _ _ (fun h => absurd rfl h) ?_
          clear hK K
          refine He.wpE_done (by kernel_rfl) ?_
          try simp only [Act.put, List.setIfInBounds_toArray, List.set_cons_zero, List.set_cons_succ]
          have hcut := (R2.start HRz.out HZ.out hlr hlg).put13 (.int .i64 a0) (.int .i64 a1) (.int .i64 a2) (.int .i64 a3) (.int .i64 a4) (.int .i64 a5) (.int .i64 a6) (.bool y) (.slice none 0 0) (.int .i64 0) (.int .i64 0) (.int .i64 0) (.string ⟨#[]⟩)
          clear z0 f0 z1 f1 z2 f2 z3 f3 z4 f4 z5 f5 z6 f6 z7 f7 z8 f8 z9 f9 z10 f10 z11 f11 z12 f12
          go_wp2_with fail
          go_meet
          exact ⟨_, rfl, hcut⟩
        · go_simp
          have HZ0 := Lib.hid (Blk.new wd zc 33)
          have HRz0 := Lib.hid (HRd.out.mod ((Mod.refl wd []).alloc (.cells zc 33)))
          have hlr : w.heap.size < wd.heap.size := by omega
          have hlg : w.heap.size + 1 < wd.heap.size := by omega
          generalize hm : wd.heap.size = m at *
          generalize hwz : wd.alloc _ = wf at *
          have S1 : wf.cell? ⟨a, 0, none⟩ = some (.int .i64 a0) ∧ wf.cell? ⟨a, 1, none⟩ = some (.int .i64 a1) ∧ wf.cell? ⟨a, 2, none⟩ = some (.int .i64 a2) ∧ wf.cell? ⟨a, 3, none⟩ = some (.int .i64 a3) ∧ wf.cell? ⟨a, 4, none⟩ = some (.int .i64 a4) ∧ wf.cell? ⟨a, 5, none⟩ = some (.int .i64 a5) ∧ wf.cell? ⟨a, 6, none⟩ = some (.int .i64 a6) := ⟨HRz0.out.ba.cell 0, HRz0.out.ba.cell 1, HRz0.out.ba.cell 2, HRz0.out.ba.cell 3, HRz0.out.ba.cell 4, HRz0.out.ba.cell 5, HRz0.out.ba.cell 6⟩
          refine hK.out _ _ (fun _ => S1) ?_
          clear hK K hwz hm S0 HRd
          try simp only [Act.put, List.setIfInBounds_toArray, List.set_cons_zero, List.set_cons_succ]
          refine He.wpE_one (i := 15) (by kernel_rfl) rfl (by rfl) (fun K hK => ?_)
          go_simp
          (with_reducible refine (FC.out _ ?_).mono ?_)
          · exact HRz0.out.tp
          rintro e wz ⟨rfl, hmf, htf⟩
          have HZ := Lib.hid (HZ0.out.mod hmf (by simp only [List.mem_singleton]; omega))
          have HRz := Lib.hid (HRz0.out.step hmf (HF.out _ htf))
          have S2 : wz.cell? ⟨a, 0, none⟩ = some (.int .i64 a0) ∧ wz.cell? ⟨a, 1, none⟩ = some (.int .i64 a1) ∧ wz.cell? ⟨a, 2, none⟩ = some (.int .i64 a2) ∧ wz.cell? ⟨a, 3, none⟩ = some (.int .i64 a3) ∧ wz.cell? ⟨a, 4, none⟩ = some (.int .i64 a4) ∧ wz.cell? ⟨a, 5, none⟩ = some (.int .i64 a5) ∧ wz.cell? ⟨a, 6, none⟩ = some (.int .i64 a6) := ⟨HRz.out.ba.cell 0, HRz.out.ba.cell 1, HRz.out.ba.cell 2, HRz.out.ba.cell 3, HRz.out.ba.cell 4, HRz.out.ba.cell 5, HRz.out.ba.cell 6⟩
          refine hK.out _ _ (fun _ => S2) ?_
          clear hK K hmf htf S1 HRz0 HZ0
          try simp only [Act.put, List.setIfInBounds_toArray, List.set_cons_zero, List.set_cons_succ]
          refine He.wpE_take (i := 16) (v := ?_) rfl (by kernel_rfl) (by kernel_rfl) (by kernel_rfl) (by kernel_rfl) (by kernel_rfl) (fun _ _ _ h => h) (by rfl) ?_ (by assumption) ?_
          rotate_left
          · (intro w' hSw; (try dsimp only at hSw); go_simp; first | done | with_reducible rfl)
          try simp only [List.getElem_toArray, List.getElem_cons_succ, List.getElem_cons_zero, Act.put, List.setIfInBounds_toArray, List.set_cons_zero, List.set_cons_succ]
          refine He.wpE_one (i := 18) (by kernel_rfl) rfl (by rfl) (fun K hK => ?_)
          have z0 := HZ.out.cell 0
          have f0 := HZ.out.free 0
          have z1 := HZ.out.cell 1
          have f1 := HZ.out.free 1
          have z2 := HZ.out.cell 2
          have f2 := HZ.out.free 2
          have z3 := HZ.out.cell 3
          have f3 := HZ.out.free 3
          have z4 := HZ.out.cell 4
          have f4 := HZ.out.free 4
          have z5 := HZ.out.cell 5
          have f5 := HZ.out.free 5
          have z6 := HZ.out.cell 6
          have f6 := HZ.out.free 6
          have z7 := HZ.out.cell 7
          have f7 := HZ.out.free 7
          have z8 := HZ.out.cell 8
          have f8 := HZ.out.free 8
          have z9 := HZ.out.cell 9
          have f9 := HZ.out.free 9
          have z10 := HZ.out.cell 10
          have f10 := HZ.out.free 10
          have z11 := HZ.out.cell 11
          have f11 := HZ.out.free 11
          have z12 := HZ.out.cell 12
          have f12 := HZ.out.free 12
          go_simp
          refine hK.out _ _ (fun h => absurd rfl h) ?_
          clear hK K
          refine He.wpE_done (by kernel_rfl) ?_
          try simp only [Act.put, List.setIfInBounds_toArray, List.set_cons_zero, List.set_cons_succ]
          have hcut := (R2.start HRz.out HZ.out hlr hlg).put13 (.int .i64 a0) (.int .i64 a1) (.int .i64 a2) (.int .i64 a3) (.int .i64 a4) (.int .i64 a5) (.int .i64 a6) (.bool y) (.slice none 0 0) (.int .i64 0) (.int .i64 0) (.int .i64 0) (.string ⟨#[]⟩)
          clear z0 f0 z1 f1 z2 f2 z3 f3 z4 f4 z5 f5 z6 f6 z7 f7 z8 f8 z9 f9 z10 f10 z11 f11 z12 f12
          go_wp2_with fail
          go_meet
          exact ⟨_, rfl, hcut⟩
      case rest =>
        clear HR FC HF hal
        obtain ⟨m, rfl, hr2⟩ := hcut
        have HR2 := Lib.hid hr2
        clear hr2
        have hN := lim_bd (tN (fx (q7 s)).1 (fx (q7 s)).2)
        replace hN : -1 ≤ nE s ∧ nE s ≤ 549755813888 := hN
        have NB : Hid (Calls Try.prog 83 #[.pointer (some ⟨w.heap.size + 1, 0, none⟩)] wc fun e w' => e = .returned (.int .i64 (nE s)) ∧ Mod wc w' [w.heap.size + 1] ∧ TpAt w' (w.heap.size + 1) (pE s)) := Lib.hid (numb_calls (w.heap.size + 1) (fx (q7 s)) wc (by omega) HR2.out.tp)
        have hcE : Hid (cE s = (min (nE s) 17).toNat) := Lib.hid rfl
        have HOK : Hid (readOk s = (decide (endE (zE s).1 (zE s).2 = 0) && (decide (0 ≤ nE s) && checkB (readM s)))) := Lib.hid rfl
        have HRS : Hid (readS s = if readOk s = true then readM s else noMs) := Lib.hid rfl
        have hpz : (pE s).1.size ≤ s.size := Nat.le_trans (nx_size _) (by omega)
        have hcb : cE s ≤ 17 := by rw [hcE.out]; omega
        have HAE : Hid (aE s = (rdEs (pE s) (cE s)).2) := Lib.hid rfl
        have HZE : Hid (zE s = tx (nx (nx (nx (aE s)))) 262144) := Lib.hid rfl
        generalize nE s = N at *
        generalize pE s = PE at *
        generalize cE s = CE at *
        generalize aE s = AE at *
        generalize zE s = ZE at *
        generalize readM s = RM at *
        obtain ⟨OK, hOK0⟩ : ∃ OK, readOk s = OK := ⟨_, rfl⟩
        rw [hOK0] at HOK HRS
        have HO := Lib.hid hOK0
        clear hOK0
        go_wp2_with fail
        (with_reducible refine (NB.out).mono ?_)
        rintro e w5 ⟨rfl, hm5, ht5⟩
        have HR5 := Lib.hid (HR2.out.step hm5 ht5)
        clear hm5 ht5 NB HR2
        obtain ⟨i0, hi0, hz0, hz1, hz2'⟩ := info_parts info_en
        go_wp2_with fail
        obtain ⟨wo, rfl⟩ : ∃ wo, wo = wr := ⟨_, rfl⟩
        go_loopw [9] (fun vi wr => ∃ (i : Nat) (v : Value), vi = .int .i64 (i : Int) ∧ i ≤ CE ∧ R2 w w.heap.size (w.heap.size + 1) m (rdEs PE i).2 #[.int .i64 a0, .int .i64 a1, .int .i64 a2, .int .i64 a3, .int .i64 a4, .int .i64 a5, .int .i64 a6, .bool y, v, .int .i64 0, .int .i64 0, .int .i64 0, .string ⟨#[]⟩] v (rdEs PE i).1 wr) (fun vi _ => 18 - (intOf vi).toNat)
        case atStart => exact ⟨0, .slice none 0 0, rfl, Nat.zero_le _, HR5.out⟩
        case round =>
          obtain ⟨i, v, rfl, hic, hrel⟩ := hrel
          have HR := Lib.hid hrel
          clear hrel HR5
          have hps := rdEs_size PE i
          have HLEN := Lib.hid (rdEs_len PE i)
          by_cases hlt : i < CE
          · have hcE' := hcE.out
            have h1 : (i : Int) < N := by omega
            have h2 : (i : Int) ≤ 16 := by omega
            clear hcE'
            have HRE : Hid (rdEs PE (i + 1) = ((rdEs PE i).1 ++ [(rdE (rdEs PE i).2).1], (rdE (rdEs PE i).2).2)) := Lib.hid rfl
            generalize (rdEs PE i).2 = P at *
            generalize (rdEs PE i).1 = es at *
            have z1 := nx_size P
            have z2 := nx_size (nx P)
            have z3 := nx_size (nx (nx P))
            have N1 := Lib.hid (fun W h => numb_calls (w.heap.size + 1) P W (by omega) h)
            have N2 := Lib.hid (fun W h => numb_calls (w.heap.size + 1) (nx P) W (by omega) h)
            have N3 := Lib.hid (fun W h => numb_calls (w.heap.size + 1) (nx (nx P)) W (by omega) h)
            have TC : Hid (∀ W, TpAt W (w.heap.size + 1) (nx (nx (nx P))) → Calls Try.prog 85 #[.pointer (some ⟨w.heap.size + 1, 0, none⟩), .int .i64 32768] W fun e w' => e = .returned (.string (rdE P).1.x) ∧ Mod W w' [w.heap.size + 1] ∧ TpAt w' (w.heap.size + 1) (rdE P).2) := Lib.hid (fun W h => Text_calls (w.heap.size + 1) (nx (nx (nx P))).1 (nx (nx (nx P))).2 32768 (by omega) (by omega) W (by omega) h)
            have HXE : Hid ((rdE P).1 = ⟨nv P, nv (nx P), nv (nx (nx P)), (rdE P).1.x⟩) := Lib.hid rfl
            generalize (rdE P).1.x = xx at *
            generalize (rdE P).1 = xe at *
            generalize (rdE P).2 = P' at *
            generalize nv P = b0 at *
            generalize nv (nx P) = b1 at *
            generalize nv (nx (nx P)) = b2 at *
            go_wp2_with fail
            (with_reducible refine (N1.out _ ?_).mono ?_)
            · exact HR.out.tp
            rintro e w6 ⟨rfl, hm6, ht6⟩
            have HR6 := Lib.hid (HR.out.step hm6 ht6)
            clear hm6 ht6 N1 HR
            go_wp2_with fail
            (with_reducible refine (N2.out _ ?_).mono ?_)
            · exact HR6.out.tp
            rintro e w7 ⟨rfl, hm7, ht7⟩
            have HR7 := Lib.hid (HR6.out.step hm7 ht7)
            clear hm7 ht7 N2 HR6
            go_wp2_with fail
            (with_reducible refine (N3.out _ ?_).mono ?_)
            · exact HR7.out.tp
            rintro e w8 ⟨rfl, hm8, ht8⟩
            have HR8 := Lib.hid (HR7.out.step hm8 ht8)
            clear hm8 ht8 N3 HR7
            go_wp2_with fail
            refine He.wp_region_e 11 (fun w' => w'.cell? ⟨m, 8, none⟩ = some v) (by kernel_rfl) (HR8.out.bm.cell 8) (fun S0 => ?_)
            have HRd := Lib.hid (HR8.out.mod ((Mod.refl w8 []).drew))
            clear HR8
            generalize w8.drew = wd at *
            refine He.wpE_take (i := 0) (v := ?_) rfl (by kernel_rfl) (by kernel_rfl) (by kernel_rfl) (by kernel_rfl) (by kernel_rfl) (fun _ _ _ h => h) (by rfl) ?_ (by assumption) ?_
            rotate_left
            · (intro w' hSw; (try dsimp only at hSw); go_simp; first | done | with_reducible rfl)
            try simp only [List.getElem_toArray, List.getElem_cons_succ, List.getElem_cons_zero, Act.put, List.setIfInBounds_toArray, List.set_cons_zero, List.set_cons_succ]
            refine He.wpE_take (i := 1) (v := ?_) rfl (by kernel_rfl) (by kernel_rfl) (by kernel_rfl) (by kernel_rfl) (by kernel_rfl) (fun _ _ _ h => h) (by rfl) ?_ (by assumption) ?_
            rotate_left
            · (intro w' hSw; (try dsimp only at hSw); go_simp; first | done | with_reducible rfl)
            try simp only [List.getElem_toArray, List.getElem_cons_succ, List.getElem_cons_zero, Act.put, List.setIfInBounds_toArray, List.set_cons_zero, List.set_cons_succ]
            refine He.wpE_take (i := 2) (v := ?_) rfl (by kernel_rfl) (by kernel_rfl) (by kernel_rfl) (by kernel_rfl) (by kernel_rfl) (fun _ _ _ h => h) (by rfl) ?_ (by assumption) ?_
            rotate_left
            · (intro w' hSw; (try dsimp only at hSw); go_simp; first | done | with_reducible rfl)
            try simp only [List.getElem_toArray, List.getElem_cons_succ, List.getElem_cons_zero, Act.put, List.setIfInBounds_toArray, List.set_cons_zero, List.set_cons_succ]
            refine He.wpE_take (i := 3) (v := ?_) rfl (by kernel_rfl) (by kernel_rfl) (by kernel_rfl) (by kernel_rfl) (by kernel_rfl) (fun _ _ _ h => h) (by rfl) ?_ (by assumption) ?_
            rotate_left
            · (intro w' hSw; (try dsimp only at hSw); go_simp; first | done | with_reducible rfl)
            try simp only [List.getElem_toArray, List.getElem_cons_succ, List.getElem_cons_zero, Act.put, List.setIfInBounds_toArray, List.set_cons_zero, List.set_cons_succ]
            refine He.wpE_take (i := 4) (v := ?_) rfl (by kernel_rfl) (by kernel_rfl) (by kernel_rfl) (by kernel_rfl) (by kernel_rfl) (fun _ _ _ h => h) (by rfl) ?_ (by assumption) ?_
            rotate_left
            · (intro w' hSw; (try dsimp only at hSw); go_simp; first | done | with_reducible rfl)
            try simp only [List.getElem_toArray, List.getElem_cons_succ, List.getElem_cons_zero, Act.put, List.setIfInBounds_toArray, List.set_cons_zero, List.set_cons_succ]
            refine He.wpE_take (i := 5) (v := ?_) rfl (by kernel_rfl) (by kernel_rfl) (by kernel_rfl) (by kernel_rfl) (by kernel_rfl) (fun _ _ _ h => h) (by rfl) ?_ (by assumption) ?_
            rotate_left
            · (intro w' hSw; (try dsimp only at hSw); go_simp; first | done | with_reducible rfl)
            try simp only [List.getElem_toArray, List.getElem_cons_succ, List.getElem_cons_zero, Act.put, List.setIfInBounds_toArray, List.set_cons_zero, List.set_cons_succ]
            refine He.wpE_one (i := 6) (by kernel_rfl) rfl (by rfl) (fun K hK => ?_)
            go_simp
            (with_reducible refine (TC.out _ ?_).mono ?_)
            · exact HRd.out.tp
            rintro e w9 ⟨rfl, hm9, ht9⟩
            have HR9 := Lib.hid (HRd.out.step hm9 ht9)
            have S9 : w9.cell? ⟨m, 8, none⟩ = some v := HR9.out.bm.cell 8
            refine hK.out _ _ (fun _ => S9) ?_
            clear hK K hm9 ht9 S0 HRd TC
            try simp only [Act.put, List.setIfInBounds_toArray, List.set_cons_zero, List.set_cons_succ]
            refine He.wpE_take (i := 7) (v := ?_) rfl (by kernel_rfl) (by kernel_rfl) (by kernel_rfl) (by kernel_rfl) (by kernel_rfl) (fun _ _ _ h => h) (by rfl) ?_ (by assumption) ?_
            rotate_left
            · (intro w' hSw; (try dsimp only at hSw); go_simp; first | done | with_reducible rfl)
            try simp only [List.getElem_toArray, List.getElem_cons_succ, List.getElem_cons_zero, Act.put, List.setIfInBounds_toArray, List.set_cons_zero, List.set_cons_succ]
            refine He.wpE_one (i := 8) (by kernel_rfl) rfl (by rfl) (fun K hK => ?_)
            go_simp
            have HRa := Lib.hid (HR9.out.mod ((Mod.refl w9 []).alloc (.cells #[.int .i64 b0, .int .i64 b1, .int .i64 b2, .string xx] 77)))
            refine hK.out _ _ (fun _ => HRa.out.bm.cell 8) ?_
            clear hK K S9
            try simp only [Act.put, List.setIfInBounds_toArray, List.set_cons_zero, List.set_cons_succ]
            have hml : m + 1 ≤ w9.heap.size := HR9.out.bm.lt
            have hel : es.length ≤ 17 := by rw [HLEN.out]; omega
            refine He.wpE_one (i := 9) (by kernel_rfl) rfl (by rfl) (fun K hK => ?_)
            refine wp_append_lies _ _ _ _ (by rfl) (m + 1) 77 i0 _ 4 40 Try.underlying29 hi0 hz0 hz1 hz2' rfl (by omega) v es.length (rowsE es) (by rfl) HRa.out.ow
                  ⟨w9.heap.size, 0, none⟩ 1 1 [.int .i64 b0, .int .i64 b1, .int .i64 b2, .string xx] (by rfl) (by rfl) (World.news_of_block (cs := #[.int .i64 b0, .int .i64 b1, .int .i64 b2, .string xx]) (t := 77) (fr := (0, 0)) (heap_alloc_new w9 _)) (by simp [Value.oneCell'])
                  (by omega) (by unfold maxLen; omega) (by omega) (by simp; omega) (w9.heap.size + 1) (by simp) ?_
            intro gg gcap w10 hown1 hgrow hat hlt2
            have HRb := Lib.hid (HRa.out.app (x := ⟨b0, b1, b2, xx⟩) hgrow hown1)
            refine hK.out _ _ (fun _ => HRb.out.bm.cell 8) ?_
            clear hK K hown1 hgrow hat hlt2 HRa HR9
            have S10 : w10.cell? ⟨m, 8, none⟩ = some v := HRb.out.bm.cell 8
            have x8 := HRb.out.bm.cell 8
            have xf := HRb.out.bm.free 8
            try simp only [Act.put, List.setIfInBounds_toArray, List.set_cons_zero, List.set_cons_succ]
            refine He.wpE_take (i := 10) (v := ?_) rfl (by kernel_rfl) (by kernel_rfl) (by kernel_rfl) (by kernel_rfl) (by kernel_rfl) (fun _ _ _ h => h) (by rfl) ?_ (by assumption) ?_
            rotate_left
            · (intro w' hSw; (try dsimp only at hSw); go_simp; first | done | with_reducible rfl)
            try simp only [List.getElem_toArray, List.getElem_cons_succ, List.getElem_cons_zero, Act.put, List.setIfInBounds_toArray, List.set_cons_zero, List.set_cons_succ]
            refine He.wpE_one (i := 11) (by kernel_rfl) rfl (by rfl) (fun K hK => ?_)
            go_simp
            refine hK.out _ _ (fun h => absurd rfl h) ?_
            clear hK K
            refine He.wpE_done (by kernel_rfl) ?_
            try simp only [Act.put, List.setIfInBounds_toArray, List.set_cons_zero, List.set_cons_succ]
            have HRc := Lib.hid (HRb.out.set8 (.slice (some ⟨gg, 0, none⟩) (es.length + 1) gcap))
            clear HRb x8 xf S10
            go_wp2_with fail
            go_roundw
            case rel => exact ⟨i + 1, _, by go_num, by omega, by rw [HRE.out, HXE.out]; exact HRc.out⟩
            case measure => simp [intOf]; omega
          · obtain rfl : i = CE := by omega
            rw [← HAE.out] at HR hps
            generalize hes : (rdEs PE i).1 = es at *
            clear hes
            have z1 := nx_size AE
            have z2 := nx_size (nx AE)
            have z3 := nx_size (nx (nx AE))
            have z4 := tx_size (nx (nx (nx AE))) 262144
            have N1 := Lib.hid (fun W h => numb_calls (w.heap.size + 1) AE W (by omega) h)
            have N2 := Lib.hid (fun W h => numb_calls (w.heap.size + 1) (nx AE) W (by omega) h)
            have N3 := Lib.hid (fun W h => numb_calls (w.heap.size + 1) (nx (nx AE)) W (by omega) h)
            have TC : Hid (∀ W, TpAt W (w.heap.size + 1) (nx (nx (nx AE))) → Calls Try.prog 85 #[.pointer (some ⟨w.heap.size + 1, 0, none⟩), .int .i64 262144] W fun e w' => e = .returned (.string (textR (nx (nx (nx AE))).1 (nx (nx (nx AE))).2 262144).1) ∧ Mod W w' [w.heap.size + 1] ∧ TpAt w' (w.heap.size + 1) (tx (nx (nx (nx AE))) 262144)) := Lib.hid (fun W h => Text_calls (w.heap.size + 1) (nx (nx (nx AE))).1 (nx (nx (nx AE))).2 262144 (by omega) (by omega) W (by omega) h)
            rw [← HZE.out] at TC z4
            generalize (textR (nx (nx (nx AE))).1 (nx (nx (nx AE))).2 262144).1 = xx at *
            generalize nv AE = b0 at *
            generalize nv (nx AE) = b1 at *
            generalize nv (nx (nx AE)) = b2 at *
            have hstop : ¬ ((i : Int) < N ∧ (i : Int) ≤ 16) := by have := hcE.out; omega
            have EC := Lib.hid (fun W h => End_calls (w.heap.size + 1) ZE.1 ZE.2 W h)
            obtain ⟨va, vc, rfl⟩ := Rw.own_slice HR.out.ow
            by_cases hiN : (i : Int) < N
            · have hi16 : ¬ (i : Int) ≤ 16 := fun h => hstop ⟨hiN, h⟩
              go_wp2_with fail
              (with_reducible refine (N1.out _ ?_).mono ?_)
              · exact HR.out.tp
              rintro e w6 ⟨rfl, hm6, ht6⟩
              have HR6 := Lib.hid (HR.out.step hm6 ht6)
              clear hm6 ht6 N1 HR
              go_wp2_with fail
              (with_reducible refine (N2.out _ ?_).mono ?_)
              · exact HR6.out.tp
              rintro e w7 ⟨rfl, hm7, ht7⟩
              have HR7 := Lib.hid (HR6.out.step hm7 ht7)
              clear hm7 ht7 N2 HR6
              go_wp2_with fail
              (with_reducible refine (N3.out _ ?_).mono ?_)
              · exact HR7.out.tp
              rintro e w8 ⟨rfl, hm8, ht8⟩
              have HR8 := Lib.hid (HR7.out.step hm8 ht8)
              clear hm8 ht8 N3 HR7
              go_wp2_with fail
              (with_reducible refine (TC.out _ ?_).mono ?_)
              · exact HR8.out.tp
              rintro e w9 ⟨rfl, hm9, ht9⟩
              have HR9 := Lib.hid (HR8.out.step hm9 ht9)
              clear hm9 ht9 TC HR8
              have x9 := HR9.out.bm.cell 9
              have x10 := HR9.out.bm.cell 10
              have x11 := HR9.out.bm.cell 11
              have x12 := HR9.out.bm.cell 12
              have f9 := HR9.out.bm.free 9
              have f10 := HR9.out.bm.free 10
              have f11 := HR9.out.bm.free 11
              have f12 := HR9.out.bm.free 12
              have HR10 := Lib.hid (HR9.out.put4 (.int .i64 b0) (.int .i64 b1) (.int .i64 b2) (.string xx))
              clear HR9
              go_upto_region 17 with (fail)
              clear x9 x10 x11 x12 f9 f10 f11 f12
              generalize World.setCell _ ⟨m, 12, none⟩ _ = w11 at *
              obtain ⟨E, hE⟩ : ∃ E, endE ZE.1 ZE.2 = E := ⟨_, rfl⟩
              obtain ⟨B, hB⟩ : ∃ B, checkB RM = B := ⟨_, rfl⟩
              rw [hE, hB] at HOK
              rw [hE] at EC
              have CC0 := check_calls RM (.slice va es.length vc) w11 (by rw [HRM.out]; exact ensV_own HR10.out.ow) (by rw [HRM.out]; show es.length ≤ 100000; rw [HLEN.out]; omega)
              rw [hB, HRM.out] at CC0
              have CC : Hid (Calls Try.prog 32 #[.agg #[.int .i64 a0, .int .i64 a1, .int .i64 a2, .int .i64 a3, .int .i64 a4, .int .i64 a5, .int .i64 a6, .bool y, .slice va es.length vc, .int .i64 b0, .int .i64 b1, .int .i64 b2, .string xx]] w11 fun e w' => e = .returned (.bool B) ∧ Mod w11 w' []) := Lib.hid CC0
              clear CC0 hE hB
              by_cases hE0 : E = 0
              · subst hE0
                by_cases hNn : 0 ≤ N
                · have hNb : ¬ N < 0 := by omega
                  have q0 := HR10.out.bm.cell 0
                  have q1 := HR10.out.bm.cell 1
                  have q2 := HR10.out.bm.cell 2
                  have q3 := HR10.out.bm.cell 3
                  have q4 := HR10.out.bm.cell 4
                  have q5 := HR10.out.bm.cell 5
                  have q6 := HR10.out.bm.cell 6
                  have q7' := HR10.out.bm.cell 7
                  have q8 := HR10.out.bm.cell 8
                  have q9 := HR10.out.bm.cell 9
                  have q10 := HR10.out.bm.cell 10
                  have q11 := HR10.out.bm.cell 11
                  have q12 := HR10.out.bm.cell 12
                  cases B
                  · go_wp2_with fail
                    (with_reducible refine (EC.out _ ?_).mono ?_)
                    · exact HR10.out.tp
                    rintro e w12 ⟨rfl, rfl⟩
                    go_wp2_with fail
                    (with_reducible refine (CC.out).mono ?_)
                    rintro e w13 ⟨rfl, hm13⟩
                    have HR13 := Lib.hid (HR10.out.mod hm13)
                    clear hm13 CC q0 q1 q2 q3 q4 q5 q6 q7' q8 q9 q10 q11 q12
                    have r0 := HR13.out.br.cell 0
                    have g0 := HR13.out.br.free 0
                    have r1 := HR13.out.br.cell 1
                    have g1 := HR13.out.br.free 1
                    have r2 := HR13.out.br.cell 2
                    have g2 := HR13.out.br.free 2
                    have r3 := HR13.out.br.cell 3
                    have g3 := HR13.out.br.free 3
                    have r4 := HR13.out.br.cell 4
                    have g4 := HR13.out.br.free 4
                    have r5 := HR13.out.br.cell 5
                    have g5 := HR13.out.br.free 5
                    have r6 := HR13.out.br.cell 6
                    have g6 := HR13.out.br.free 6
                    have r7 := HR13.out.br.cell 7
                    have g7 := HR13.out.br.free 7
                    have r8 := HR13.out.br.cell 8
                    have g8 := HR13.out.br.free 8
                    have r9 := HR13.out.br.cell 9
                    have g9 := HR13.out.br.free 9
                    have r10 := HR13.out.br.cell 10
                    have g10 := HR13.out.br.free 10
                    have r11 := HR13.out.br.cell 11
                    have g11 := HR13.out.br.free 11
                    have r12 := HR13.out.br.cell 12
                    have g12 := HR13.out.br.free 12
                    go_wp2_with fail
                    refine bodyPost_ret (v := .tuple #[.agg #[.int .i64 0, .int .i64 0, .int .i64 0, .int .i64 0, .int .i64 0, .int .i64 0, .int .i64 0, .bool false, .slice none 0 0, .int .i64 0, .int .i64 0, .int .i64 0, .string ⟨#[]⟩], .int .i64 3]) (by simp [results, Try.results38, go_sem, r0, r1, r2, r3, r4, r5, r6, r7, r8, r9, r10, r11, r12]) rfl ?_
                    have hok : OK = false := by rw [HOK.out]; simp
                    refine ⟨.slice none 0 0, ?_, ?_, ?_⟩
                    · rw [HRS.out, HO.out, hok]; rfl
                    · exact mod_new HR13.out.md (mod13 _ _ (.int .i64 0) (.int .i64 0) (.int .i64 0) (.int .i64 0) (.int .i64 0) (.int .i64 0) (.int .i64 0) (.bool false) (.slice none 0 0) (.int .i64 0) (.int .i64 0) (.int .i64 0) (.string ⟨#[]⟩)) (Nat.le_refl _)
                    · rw [HRS.out, hok]; exact ⟨rfl, .inl ⟨rfl, rfl⟩⟩
                  · go_wp2_with fail
                    (with_reducible refine (EC.out _ ?_).mono ?_)
                    · exact HR10.out.tp
                    rintro e w12 ⟨rfl, rfl⟩
                    go_wp2_with fail
                    (with_reducible refine (CC.out).mono ?_)
                    rintro e w13 ⟨rfl, hm13⟩
                    have HR13 := Lib.hid (HR10.out.mod hm13)
                    clear hm13 CC q0 q1 q2 q3 q4 q5 q6 q7' q8 q9 q10 q11 q12
                    have r0 := HR13.out.br.cell 0
                    have g0 := HR13.out.br.free 0
                    have r1 := HR13.out.br.cell 1
                    have g1 := HR13.out.br.free 1
                    have r2 := HR13.out.br.cell 2
                    have g2 := HR13.out.br.free 2
                    have r3 := HR13.out.br.cell 3
                    have g3 := HR13.out.br.free 3
                    have r4 := HR13.out.br.cell 4
                    have g4 := HR13.out.br.free 4
                    have r5 := HR13.out.br.cell 5
                    have g5 := HR13.out.br.free 5
                    have r6 := HR13.out.br.cell 6
                    have g6 := HR13.out.br.free 6
                    have r7 := HR13.out.br.cell 7
                    have g7 := HR13.out.br.free 7
                    have r8 := HR13.out.br.cell 8
                    have g8 := HR13.out.br.free 8
                    have r9 := HR13.out.br.cell 9
                    have g9 := HR13.out.br.free 9
                    have r10 := HR13.out.br.cell 10
                    have g10 := HR13.out.br.free 10
                    have r11 := HR13.out.br.cell 11
                    have g11 := HR13.out.br.free 11
                    have r12 := HR13.out.br.cell 12
                    have g12 := HR13.out.br.free 12
                    have y0 := HR13.out.bm.cell 0
                    have y1 := HR13.out.bm.cell 1
                    have y2 := HR13.out.bm.cell 2
                    have y3 := HR13.out.bm.cell 3
                    have y4 := HR13.out.bm.cell 4
                    have y5 := HR13.out.bm.cell 5
                    have y6 := HR13.out.bm.cell 6
                    have y7 := HR13.out.bm.cell 7
                    have y8 := HR13.out.bm.cell 8
                    have y9 := HR13.out.bm.cell 9
                    have y10 := HR13.out.bm.cell 10
                    have y11 := HR13.out.bm.cell 11
                    have y12 := HR13.out.bm.cell 12
                    go_wp2_with fail
                    refine bodyPost_ret (v := .tuple #[.agg #[.int .i64 a0, .int .i64 a1, .int .i64 a2, .int .i64 a3, .int .i64 a4, .int .i64 a5, .int .i64 a6, .bool y, .slice va es.length vc, .int .i64 b0, .int .i64 b1, .int .i64 b2, .string xx], .int .i64 0]) (by simp [results, Try.results38, go_sem, r0, r1, r2, r3, r4, r5, r6, r7, r8, r9, r10, r11, r12]) rfl ?_
                    have hok : OK = true := by rw [HOK.out]; simp [hNn]
                    refine ⟨.slice va es.length vc, ?_, ?_, ?_⟩
                    · rw [HRS.out, HO.out, hok, HRM.out]; rfl
                    · exact mod_new HR13.out.md (mod13 _ _ (.int .i64 a0) (.int .i64 a1) (.int .i64 a2) (.int .i64 a3) (.int .i64 a4) (.int .i64 a5) (.int .i64 a6) (.bool y) (.slice va es.length vc) (.int .i64 b0) (.int .i64 b1) (.int .i64 b2) (.string xx)) (Nat.le_refl _)
                    · rw [HRS.out, hok, HRM.out]
                      have := own_mod HR13.out.ow (mod13 _ w.heap.size (.int .i64 a0) (.int .i64 a1) (.int .i64 a2) (.int .i64 a3) (.int .i64 a4) (.int .i64 a5) (.int .i64 a6) (.bool y) (.slice va es.length vc) (.int .i64 b0) (.int .i64 b1) (.int .i64 b2) (.string xx)) (fun k hk => by have := own_ge HR13.out.ow k hk; have := HR13.out.rm; simp only [List.mem_singleton]; omega)
                      have hrm := HR13.out.rm
                      obtain ⟨o0, o1⟩ := this
                      exact ⟨o0, o1.imp id (fun ⟨g, cap, cur, e, hg, r⟩ => ⟨g, cap, cur, e, by omega, r⟩)⟩
                · exact absurd hNn (by omega)
              · have hEb : (E != 0) = true := by simpa using hE0
                go_wp2_with fail
                (with_reducible refine (EC.out _ ?_).mono ?_)
                · exact HR10.out.tp
                rintro e w12 ⟨rfl, rfl⟩
                have r0 := HR10.out.br.cell 0
                have g0 := HR10.out.br.free 0
                have r1 := HR10.out.br.cell 1
                have g1 := HR10.out.br.free 1
                have r2 := HR10.out.br.cell 2
                have g2 := HR10.out.br.free 2
                have r3 := HR10.out.br.cell 3
                have g3 := HR10.out.br.free 3
                have r4 := HR10.out.br.cell 4
                have g4 := HR10.out.br.free 4
                have r5 := HR10.out.br.cell 5
                have g5 := HR10.out.br.free 5
                have r6 := HR10.out.br.cell 6
                have g6 := HR10.out.br.free 6
                have r7 := HR10.out.br.cell 7
                have g7 := HR10.out.br.free 7
                have r8 := HR10.out.br.cell 8
                have g8 := HR10.out.br.free 8
                have r9 := HR10.out.br.cell 9
                have g9 := HR10.out.br.free 9
                have r10 := HR10.out.br.cell 10
                have g10 := HR10.out.br.free 10
                have r11 := HR10.out.br.cell 11
                have g11 := HR10.out.br.free 11
                have r12 := HR10.out.br.cell 12
                have g12 := HR10.out.br.free 12
                go_wp2_with fail
                refine bodyPost_ret (v := .tuple #[.agg #[.int .i64 0, .int .i64 0, .int .i64 0, .int .i64 0, .int .i64 0, .int .i64 0, .int .i64 0, .bool false, .slice none 0 0, .int .i64 0, .int .i64 0, .int .i64 0, .string ⟨#[]⟩], .int .i64 3]) (by simp [results, Try.results38, go_sem, r0, r1, r2, r3, r4, r5, r6, r7, r8, r9, r10, r11, r12]) rfl ?_
                have hok : OK = false := by rw [HOK.out]; simp [hE0]
                refine ⟨.slice none 0 0, ?_, ?_, ?_⟩
                · rw [HRS.out, HO.out, hok]; rfl
                · exact mod_new HR10.out.md (mod13 _ _ (.int .i64 0) (.int .i64 0) (.int .i64 0) (.int .i64 0) (.int .i64 0) (.int .i64 0) (.int .i64 0) (.bool false) (.slice none 0 0) (.int .i64 0) (.int .i64 0) (.int .i64 0) (.string ⟨#[]⟩)) (Nat.le_refl _)
                · rw [HRS.out, hok]; exact ⟨rfl, .inl ⟨rfl, rfl⟩⟩
            · skip
              go_wp2_with fail
              (with_reducible refine (N1.out _ ?_).mono ?_)
              · exact HR.out.tp
              rintro e w6 ⟨rfl, hm6, ht6⟩
              have HR6 := Lib.hid (HR.out.step hm6 ht6)
              clear hm6 ht6 N1 HR
              go_wp2_with fail
              (with_reducible refine (N2.out _ ?_).mono ?_)
              · exact HR6.out.tp
              rintro e w7 ⟨rfl, hm7, ht7⟩
              have HR7 := Lib.hid (HR6.out.step hm7 ht7)
              clear hm7 ht7 N2 HR6
              go_wp2_with fail
              (with_reducible refine (N3.out _ ?_).mono ?_)
              · exact HR7.out.tp
              rintro e w8 ⟨rfl, hm8, ht8⟩
              have HR8 := Lib.hid (HR7.out.step hm8 ht8)
              clear hm8 ht8 N3 HR7
              go_wp2_with fail
              (with_reducible refine (TC.out _ ?_).mono ?_)
              · exact HR8.out.tp
              rintro e w9 ⟨rfl, hm9, ht9⟩
              have HR9 := Lib.hid (HR8.out.step hm9 ht9)
              clear hm9 ht9 TC HR8
              have x9 := HR9.out.bm.cell 9
              have x10 := HR9.out.bm.cell 10
              have x11 := HR9.out.bm.cell 11
              have x12 := HR9.out.bm.cell 12
              have f9 := HR9.out.bm.free 9
              have f10 := HR9.out.bm.free 10
              have f11 := HR9.out.bm.free 11
              have f12 := HR9.out.bm.free 12
              have HR10 := Lib.hid (HR9.out.put4 (.int .i64 b0) (.int .i64 b1) (.int .i64 b2) (.string xx))
              clear HR9
              go_upto_region 17 with (fail)
              clear x9 x10 x11 x12 f9 f10 f11 f12
              generalize World.setCell _ ⟨m, 12, none⟩ _ = w11 at *
              obtain ⟨E, hE⟩ : ∃ E, endE ZE.1 ZE.2 = E := ⟨_, rfl⟩
              obtain ⟨B, hB⟩ : ∃ B, checkB RM = B := ⟨_, rfl⟩
              rw [hE, hB] at HOK
              rw [hE] at EC
              have CC0 := check_calls RM (.slice va es.length vc) w11 (by rw [HRM.out]; exact ensV_own HR10.out.ow) (by rw [HRM.out]; show es.length ≤ 100000; rw [HLEN.out]; omega)
              rw [hB, HRM.out] at CC0
              have CC : Hid (Calls Try.prog 32 #[.agg #[.int .i64 a0, .int .i64 a1, .int .i64 a2, .int .i64 a3, .int .i64 a4, .int .i64 a5, .int .i64 a6, .bool y, .slice va es.length vc, .int .i64 b0, .int .i64 b1, .int .i64 b2, .string xx]] w11 fun e w' => e = .returned (.bool B) ∧ Mod w11 w' []) := Lib.hid CC0
              clear CC0 hE hB
              by_cases hE0 : E = 0
              · subst hE0
                by_cases hNn : 0 ≤ N
                · have hNb : ¬ N < 0 := by omega
                  have q0 := HR10.out.bm.cell 0
                  have q1 := HR10.out.bm.cell 1
                  have q2 := HR10.out.bm.cell 2
                  have q3 := HR10.out.bm.cell 3
                  have q4 := HR10.out.bm.cell 4
                  have q5 := HR10.out.bm.cell 5
                  have q6 := HR10.out.bm.cell 6
                  have q7' := HR10.out.bm.cell 7
                  have q8 := HR10.out.bm.cell 8
                  have q9 := HR10.out.bm.cell 9
                  have q10 := HR10.out.bm.cell 10
                  have q11 := HR10.out.bm.cell 11
                  have q12 := HR10.out.bm.cell 12
                  cases B
                  · go_wp2_with fail
                    (with_reducible refine (EC.out _ ?_).mono ?_)
                    · exact HR10.out.tp
                    rintro e w12 ⟨rfl, rfl⟩
                    go_wp2_with fail
                    (with_reducible refine (CC.out).mono ?_)
                    rintro e w13 ⟨rfl, hm13⟩
                    have HR13 := Lib.hid (HR10.out.mod hm13)
                    clear hm13 CC q0 q1 q2 q3 q4 q5 q6 q7' q8 q9 q10 q11 q12
                    have r0 := HR13.out.br.cell 0
                    have g0 := HR13.out.br.free 0
                    have r1 := HR13.out.br.cell 1
                    have g1 := HR13.out.br.free 1
                    have r2 := HR13.out.br.cell 2
                    have g2 := HR13.out.br.free 2
                    have r3 := HR13.out.br.cell 3
                    have g3 := HR13.out.br.free 3
                    have r4 := HR13.out.br.cell 4
                    have g4 := HR13.out.br.free 4
                    have r5 := HR13.out.br.cell 5
                    have g5 := HR13.out.br.free 5
                    have r6 := HR13.out.br.cell 6
                    have g6 := HR13.out.br.free 6
                    have r7 := HR13.out.br.cell 7
                    have g7 := HR13.out.br.free 7
                    have r8 := HR13.out.br.cell 8
                    have g8 := HR13.out.br.free 8
                    have r9 := HR13.out.br.cell 9
                    have g9 := HR13.out.br.free 9
                    have r10 := HR13.out.br.cell 10
                    have g10 := HR13.out.br.free 10
                    have r11 := HR13.out.br.cell 11
                    have g11 := HR13.out.br.free 11
                    have r12 := HR13.out.br.cell 12
                    have g12 := HR13.out.br.free 12
                    go_wp2_with fail
                    refine bodyPost_ret (v := .tuple #[.agg #[.int .i64 0, .int .i64 0, .int .i64 0, .int .i64 0, .int .i64 0, .int .i64 0, .int .i64 0, .bool false, .slice none 0 0, .int .i64 0, .int .i64 0, .int .i64 0, .string ⟨#[]⟩], .int .i64 3]) (by simp [results, Try.results38, go_sem, r0, r1, r2, r3, r4, r5, r6, r7, r8, r9, r10, r11, r12]) rfl ?_
                    have hok : OK = false := by rw [HOK.out]; simp
                    refine ⟨.slice none 0 0, ?_, ?_, ?_⟩
                    · rw [HRS.out, HO.out, hok]; rfl
                    · exact mod_new HR13.out.md (mod13 _ _ (.int .i64 0) (.int .i64 0) (.int .i64 0) (.int .i64 0) (.int .i64 0) (.int .i64 0) (.int .i64 0) (.bool false) (.slice none 0 0) (.int .i64 0) (.int .i64 0) (.int .i64 0) (.string ⟨#[]⟩)) (Nat.le_refl _)
                    · rw [HRS.out, hok]; exact ⟨rfl, .inl ⟨rfl, rfl⟩⟩
                  · go_wp2_with fail
                    (with_reducible refine (EC.out _ ?_).mono ?_)
                    · exact HR10.out.tp
                    rintro e w12 ⟨rfl, rfl⟩
                    go_wp2_with fail
                    (with_reducible refine (CC.out).mono ?_)
                    rintro e w13 ⟨rfl, hm13⟩
                    have HR13 := Lib.hid (HR10.out.mod hm13)
                    clear hm13 CC q0 q1 q2 q3 q4 q5 q6 q7' q8 q9 q10 q11 q12
                    have r0 := HR13.out.br.cell 0
                    have g0 := HR13.out.br.free 0
                    have r1 := HR13.out.br.cell 1
                    have g1 := HR13.out.br.free 1
                    have r2 := HR13.out.br.cell 2
                    have g2 := HR13.out.br.free 2
                    have r3 := HR13.out.br.cell 3
                    have g3 := HR13.out.br.free 3
                    have r4 := HR13.out.br.cell 4
                    have g4 := HR13.out.br.free 4
                    have r5 := HR13.out.br.cell 5
                    have g5 := HR13.out.br.free 5
                    have r6 := HR13.out.br.cell 6
                    have g6 := HR13.out.br.free 6
                    have r7 := HR13.out.br.cell 7
                    have g7 := HR13.out.br.free 7
                    have r8 := HR13.out.br.cell 8
                    have g8 := HR13.out.br.free 8
                    have r9 := HR13.out.br.cell 9
                    have g9 := HR13.out.br.free 9
                    have r10 := HR13.out.br.cell 10
                    have g10 := HR13.out.br.free 10
                    have r11 := HR13.out.br.cell 11
                    have g11 := HR13.out.br.free 11
                    have r12 := HR13.out.br.cell 12
                    have g12 := HR13.out.br.free 12
                    have y0 := HR13.out.bm.cell 0
                    have y1 := HR13.out.bm.cell 1
                    have y2 := HR13.out.bm.cell 2
                    have y3 := HR13.out.bm.cell 3
                    have y4 := HR13.out.bm.cell 4
                    have y5 := HR13.out.bm.cell 5
                    have y6 := HR13.out.bm.cell 6
                    have y7 := HR13.out.bm.cell 7
                    have y8 := HR13.out.bm.cell 8
                    have y9 := HR13.out.bm.cell 9
                    have y10 := HR13.out.bm.cell 10
                    have y11 := HR13.out.bm.cell 11
                    have y12 := HR13.out.bm.cell 12
                    go_wp2_with fail
                    refine bodyPost_ret (v := .tuple #[.agg #[.int .i64 a0, .int .i64 a1, .int .i64 a2, .int .i64 a3, .int .i64 a4, .int .i64 a5, .int .i64 a6, .bool y, .slice va es.length vc, .int .i64 b0, .int .i64 b1, .int .i64 b2, .string xx], .int .i64 0]) (by simp [results, Try.results38, go_sem, r0, r1, r2, r3, r4, r5, r6, r7, r8, r9, r10, r11, r12]) rfl ?_
                    have hok : OK = true := by rw [HOK.out]; simp [hNn]
                    refine ⟨.slice va es.length vc, ?_, ?_, ?_⟩
                    · rw [HRS.out, HO.out, hok, HRM.out]; rfl
                    · exact mod_new HR13.out.md (mod13 _ _ (.int .i64 a0) (.int .i64 a1) (.int .i64 a2) (.int .i64 a3) (.int .i64 a4) (.int .i64 a5) (.int .i64 a6) (.bool y) (.slice va es.length vc) (.int .i64 b0) (.int .i64 b1) (.int .i64 b2) (.string xx)) (Nat.le_refl _)
                    · rw [HRS.out, hok, HRM.out]
                      have := own_mod HR13.out.ow (mod13 _ w.heap.size (.int .i64 a0) (.int .i64 a1) (.int .i64 a2) (.int .i64 a3) (.int .i64 a4) (.int .i64 a5) (.int .i64 a6) (.bool y) (.slice va es.length vc) (.int .i64 b0) (.int .i64 b1) (.int .i64 b2) (.string xx)) (fun k hk => by have := own_ge HR13.out.ow k hk; have := HR13.out.rm; simp only [List.mem_singleton]; omega)
                      have hrm := HR13.out.rm
                      obtain ⟨o0, o1⟩ := this
                      exact ⟨o0, o1.imp id (fun ⟨g, cap, cur, e, hg, r⟩ => ⟨g, cap, cur, e, by omega, r⟩)⟩
                · have hNb : N < 0 := by omega
                  go_wp2_with fail
                  (with_reducible refine (EC.out _ ?_).mono ?_)
                  · exact HR10.out.tp
                  rintro e w12 ⟨rfl, rfl⟩
                  have r0 := HR10.out.br.cell 0
                  have g0 := HR10.out.br.free 0
                  have r1 := HR10.out.br.cell 1
                  have g1 := HR10.out.br.free 1
                  have r2 := HR10.out.br.cell 2
                  have g2 := HR10.out.br.free 2
                  have r3 := HR10.out.br.cell 3
                  have g3 := HR10.out.br.free 3
                  have r4 := HR10.out.br.cell 4
                  have g4 := HR10.out.br.free 4
                  have r5 := HR10.out.br.cell 5
                  have g5 := HR10.out.br.free 5
                  have r6 := HR10.out.br.cell 6
                  have g6 := HR10.out.br.free 6
                  have r7 := HR10.out.br.cell 7
                  have g7 := HR10.out.br.free 7
                  have r8 := HR10.out.br.cell 8
                  have g8 := HR10.out.br.free 8
                  have r9 := HR10.out.br.cell 9
                  have g9 := HR10.out.br.free 9
                  have r10 := HR10.out.br.cell 10
                  have g10 := HR10.out.br.free 10
                  have r11 := HR10.out.br.cell 11
                  have g11 := HR10.out.br.free 11
                  have r12 := HR10.out.br.cell 12
                  have g12 := HR10.out.br.free 12
                  go_wp2_with fail
                  refine bodyPost_ret (v := .tuple #[.agg #[.int .i64 0, .int .i64 0, .int .i64 0, .int .i64 0, .int .i64 0, .int .i64 0, .int .i64 0, .bool false, .slice none 0 0, .int .i64 0, .int .i64 0, .int .i64 0, .string ⟨#[]⟩], .int .i64 3]) (by simp [results, Try.results38, go_sem, r0, r1, r2, r3, r4, r5, r6, r7, r8, r9, r10, r11, r12]) rfl ?_
                  have hok : OK = false := by rw [HOK.out, decide_eq_false (show ¬ 0 ≤ N by omega)]; simp
                  refine ⟨.slice none 0 0, ?_, ?_, ?_⟩
                  · rw [HRS.out, HO.out, hok]; rfl
                  · exact mod_new HR10.out.md (mod13 _ _ (.int .i64 0) (.int .i64 0) (.int .i64 0) (.int .i64 0) (.int .i64 0) (.int .i64 0) (.int .i64 0) (.bool false) (.slice none 0 0) (.int .i64 0) (.int .i64 0) (.int .i64 0) (.string ⟨#[]⟩)) (Nat.le_refl _)
                  · rw [HRS.out, hok]; exact ⟨rfl, .inl ⟨rfl, rfl⟩⟩
              · have hEb : (E != 0) = true := by simpa using hE0
                go_wp2_with fail
                (with_reducible refine (EC.out _ ?_).mono ?_)
                · exact HR10.out.tp
                rintro e w12 ⟨rfl, rfl⟩
                have r0 := HR10.out.br.cell 0
                have g0 := HR10.out.br.free 0
                have r1 := HR10.out.br.cell 1
                have g1 := HR10.out.br.free 1
                have r2 := HR10.out.br.cell 2
                have g2 := HR10.out.br.free 2
                have r3 := HR10.out.br.cell 3
                have g3 := HR10.out.br.free 3
                have r4 := HR10.out.br.cell 4
                have g4 := HR10.out.br.free 4
                have r5 := HR10.out.br.cell 5
                have g5 := HR10.out.br.free 5
                have r6 := HR10.out.br.cell 6
                have g6 := HR10.out.br.free 6
                have r7 := HR10.out.br.cell 7
                have g7 := HR10.out.br.free 7
                have r8 := HR10.out.br.cell 8
                have g8 := HR10.out.br.free 8
                have r9 := HR10.out.br.cell 9
                have g9 := HR10.out.br.free 9
                have r10 := HR10.out.br.cell 10
                have g10 := HR10.out.br.free 10
                have r11 := HR10.out.br.cell 11
                have g11 := HR10.out.br.free 11
                have r12 := HR10.out.br.cell 12
                have g12 := HR10.out.br.free 12
                go_wp2_with fail
                refine bodyPost_ret (v := .tuple #[.agg #[.int .i64 0, .int .i64 0, .int .i64 0, .int .i64 0, .int .i64 0, .int .i64 0, .int .i64 0, .bool false, .slice none 0 0, .int .i64 0, .int .i64 0, .int .i64 0, .string ⟨#[]⟩], .int .i64 3]) (by simp [results, Try.results38, go_sem, r0, r1, r2, r3, r4, r5, r6, r7, r8, r9, r10, r11, r12]) rfl ?_
                have hok : OK = false := by rw [HOK.out]; simp [hE0]
                refine ⟨.slice none 0 0, ?_, ?_, ?_⟩
                · rw [HRS.out, HO.out, hok]; rfl
                · exact mod_new HR10.out.md (mod13 _ _ (.int .i64 0) (.int .i64 0) (.int .i64 0) (.int .i64 0) (.int .i64 0) (.int .i64 0) (.int .i64 0) (.bool false) (.slice none 0 0) (.int .i64 0) (.int .i64 0) (.int .i64 0) (.string ⟨#[]⟩)) (Nat.le_refl _)
                · rw [HRS.out, hok]; exact ⟨rfl, .inl ⟨rfl, rfl⟩⟩
end Go.Proofs.Ytgmenlfhkhdbdaa.Ra
