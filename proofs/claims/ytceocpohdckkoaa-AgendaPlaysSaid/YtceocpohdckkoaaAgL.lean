/- An act on both, the agenda and the reference's. (Printed by mkAgL.py.) -/
import Derived.Test.YtceocpohdckkoaaAgJ
import Derived.Test.YtceocpohdckkoaaAgK
namespace Go.Proofs.Ytceocpohdckkoaa.Ag
open Go.RowKit Mem
set_option linter.unusedSimpArgs false
set_option linter.unusedVariables false
set_option maxRecDepth 100000

theorem RfAt.keep {w w' : World} {v : Value} {l : List It} (h : RfAt w v l) (k : Keep w w') : RfAt w' v l := by
  rcases h with h | ⟨g, off, cap, h1, h2, h3, ⟨cs, hb⟩, h5⟩
  · exact .inl h
  · have hb' := k g cs _ (by decide) (by decide) hb
    refine .inr ⟨g, off, cap, h1, h2, h3, ⟨cs, hb'⟩, fun i hi => ?_⟩
    have h6 := h5 i hi
    simp only [hb.cell] at h6
    simp only [hb'.cell]
    exact h6
theorem RfAt.modT {w w' : World} {v : Value} {l : List It} {t : Nat} {cs : Array Value} {ty : TypeId} (h : RfAt w v l) (hb : Blk w t cs ty) (hty : ty ≠ 127) (m : Mod w w' [t]) : RfAt w' v l := by
  rcases h with h | ⟨g, off, cap, h1, h2, h3, ⟨cs', hb1⟩, h5⟩
  · exact .inl h
  · have hne : g ≠ t := fun e => hty (blk_ne hb (e ▸ hb1))
    have hb' := hb1.mod m (by simpa using hne)
    refine .inr ⟨g, off, cap, h1, h2, h3, ⟨cs', hb'⟩, fun i hi => ?_⟩
    have h6 := h5 i hi
    simp only [hb1.cell] at h6
    simp only [hb'.cell]
    exact h6
theorem AgW.modT {w0 a b : World} {g : Nat} {last : Int} {S : List It} {t : Nat} {cs : Array Value} {ty : TypeId} (h : AgW w0 a g last S) (hb : Blk a t cs ty) (h1 : ty ≠ 96) (h2 : ty ≠ 47) (ht : w0.heap.size ≤ t) (m : Mod a b [t]) : AgW w0 b g last S := by
  obtain ⟨v, l, p1, p2, p3⟩ := h.at_
  refine ⟨h.md.trans m (fun r hr => .inr (by simp at hr; omega)), h.gl, h.ok, v, l, p1.mod m ?_ ?_, p2, p3⟩
  · rw [List.mem_singleton]; rintro rfl
    exact h1 (blk_ne hb p1.1)
  · intro k hk hm
    rw [List.mem_singleton] at hm
    subst hm
    obtain ⟨cur, hc⟩ := own_blk p1.2 k hk
    exact h2 (blk_ne hb hc)
theorem Keep.modT {w a b : World} {t : Nat} (h : Keep w a) (ht : w.heap.size ≤ t) (m : Mod a b [t]) : Keep w b := fun k cs ty n1 n2 hk => (h k cs ty n1 n2 hk).mod m (by have := hk.lt; simp; omega)
theorem two_set {a : World} {t : Nat} {x y u v : Value} {ty : TypeId} (hb : Blk a t #[x, y] ty) : Mod a ((a.setCell ⟨t, 0, none⟩ u).setCell ⟨t, 1, none⟩ v) [t] ∧ Blk ((a.setCell ⟨t, 0, none⟩ u).setCell ⟨t, 1, none⟩ v) t #[u, v] ty := by
  refine ⟨((Mod.refl _ _).setCell (by simp) _).setCell (by simp) _, ?_⟩
  have := (hb.set 0 u).set 1 v
  simpa using this
theorem two_new (a : World) (u v : Value) (ty : TypeId) : Mod a (a.alloc (.cells #[u, v] ty)) [] ∧ Blk (a.alloc (.cells #[u, v] ty)) a.heap.size #[u, v] ty := ⟨(Mod.refl a []).alloc _, Blk.new _ _ _⟩

theorem three_new (a : World) (u v s : Value) (ty : TypeId) : Mod a (a.alloc (.cells #[u, v, s] ty)) [] ∧ Blk (a.alloc (.cells #[u, v, s] ty)) a.heap.size #[u, v, s] ty := ⟨(Mod.refl a []).alloc _, Blk.new _ _ _⟩
/-- The blocks of does: the reference's agenda, the act, the result. -/
structure Du (w a : World) (v0 : Value) (last0 k x1 x2 : Int) : Prop where
  kp : Keep w a
  br : Blk a w.heap.size #[v0, .int .i64 last0] 75
  bx : Blk a (w.heap.size + 1) #[.int .i64 k, .int .i64 x1, .int .i64 x2] 79
  bt : Blk a (w.heap.size + 2) #[.slice none 0 0, .int .i64 0] 75
theorem Du.new (w : World) (v0 : Value) (last0 k x1 x2 : Int) : Du w (((w.alloc (.cells #[v0, .int .i64 last0] 75)).alloc (.cells #[.int .i64 k, .int .i64 x1, .int .i64 x2] 79)).alloc (.cells #[.slice none 0 0, .int .i64 0] 75)) v0 last0 k x1 x2 := by
  refine ⟨Keep.mod ((((Mod.refl _ _).alloc _).alloc _).alloc _), ((Blk.new _ _ _).alloc _).alloc _, ?_, ?_⟩
  · have := (Blk.new (w.alloc (.cells #[v0, .int .i64 last0] 75)) #[.int .i64 k, .int .i64 x1, .int .i64 x2] 79).alloc (.cells #[.slice none 0 0, .int .i64 0] 75)
    rwa [World.size_alloc] at this
  · have := Blk.new ((w.alloc (.cells #[v0, .int .i64 last0] 75)).alloc (.cells #[.int .i64 k, .int .i64 x1, .int .i64 x2] 79)) #[.slice none 0 0, .int .i64 0] 75
    rwa [World.size_alloc, World.size_alloc] at this
theorem Du.keep {w a b : World} {v0 : Value} {last0 k x1 x2 : Int} (h : Du w a v0 last0 k x1 x2) (m : Keep a b) : Du w b v0 last0 k x1 x2 :=
  ⟨h.kp.trans m, m _ _ _ (by decide) (by decide) h.br, m _ _ _ (by decide) (by decide) h.bx, m _ _ _ (by decide) (by decide) h.bt⟩
theorem Du.mod {w a b : World} {v0 : Value} {last0 k x1 x2 : Int} (h : Du w a v0 last0 k x1 x2) (m : Mod a b []) : Du w b v0 last0 k x1 x2 := h.keep (Keep.mod m)

def DoesP (w0 : World) (g : Nat) (last : Int) (w : World) (e : Ending) (w' : World) : Prop :=
  ∃ v' last' S', e = .returned (.tuple #[agV v' last', .bool true]) ∧ AgW w0 w' g last' S' ∧ RfAt w' v' S' ∧ Keep w w' ∧ last ≤ last' ∧ last' ≤ last + 1 ∧ S'.length ≤ 4096
theorem does_fin {w0 w a : World} {g : Nat} {last L k x1 x2 last0 : Int} {S' : List It} {v0 v' : Value} (hd : Du w a v0 last0 k x1 x2) (hag : AgW w0 a g L S') (hrf : RfAt a v' S') (h0 : w0.heap.size ≤ w.heap.size) (h1 : last ≤ L) (h2 : L ≤ last + 1) (h3 : S'.length ≤ 4096) :
    DoesP w0 g last w (.returned (.tuple #[.agg #[v', .int .i64 L], .bool true])) ((a.setCell ⟨w.heap.size + 2, 0, none⟩ v').setCell ⟨w.heap.size + 2, 1, none⟩ (.int .i64 L)) ∧
      Blk ((a.setCell ⟨w.heap.size + 2, 0, none⟩ v').setCell ⟨w.heap.size + 2, 1, none⟩ (.int .i64 L)) (w.heap.size + 2) #[v', .int .i64 L] 75 := by
  obtain ⟨q1, q2⟩ := two_set (u := v') (v := .int .i64 L) hd.bt
  exact ⟨⟨v', L, S', rfl, hag.modT hd.bt (by decide) (by decide) (by omega) q1, hrf.modT hd.bt (by decide) q1, hd.kp.modT (by omega) q1, h1, h2, h3⟩, q2⟩

theorem both_add (w0 : World) (g : Nat) (last : Int) (a : Option Addr) (c : Nat) (S : List It) (x1 x2 : Int) (hb : 0 ≤ last ∧ last ≤ 1000000000) (hn : S.length ≤ 4096) :
    ∃ (L ID F : Int) (S' : List It), (last ≤ L ∧ L ≤ last + 1 ∧ S'.length ≤ 4096) ∧
      (∀ w, RfAt w (.slice a S.length c) S → Calls Try.prog 62 #[.agg #[.slice a S.length c, .int .i64 last], .int .i64 x1, .int .i64 x2] w fun e w' => ∃ a' c', e = .returned (.tuple #[.agg #[.slice a' S'.length c', .int .i64 L], .int .i64 ID, .int .i64 F]) ∧ Mod w w' [] ∧ RfAt w' (.slice a' S'.length c') S') ∧
      (∀ w, AgW w0 w g last S → Calls Try.prog 23 #[.pointer (some ⟨g, 0, none⟩), .int .i64 x1, .int .i64 x2] w fun e w' => e = .returned (.tuple #[.int .i64 ID, .int .i64 F]) ∧ AgW w0 w' g L S' ∧ Keep w w') := by
  by_cases hf : 4096 ≤ S.length
  · refine ⟨last, 0, 7, S, ⟨by omega, by omega, hn⟩, fun w h => ?_, fun w h => ?_⟩
    · have hc := radd_calls (.slice a S.length c) last S x1 x2 w h (by omega) hb
      unfold RaddP at hc
      simp only [if_pos hf] at hc
      exact hc.mono fun e w' ⟨he, hm⟩ => ⟨a, c, he, hm, h.mod hm⟩
    · have hc := add_calls w0 w g last S x1 x2 h hb hn
      unfold AddP at hc
      simp only [if_pos hf] at hc
      exact hc
  · refine ⟨last + 1, last + 1, 0, insI S (x1, last + 1, x2), ⟨by omega, by omega, by rw [ins_len]; omega⟩, fun w h => ?_, fun w h => ?_⟩
    · have hc := radd_calls (.slice a S.length c) last S x1 x2 w h (by omega) hb
      unfold RaddP at hc
      simp only [if_neg hf] at hc
      exact hc.mono fun e w' ⟨v', he, hm, hr⟩ => by
        obtain ⟨a', c', rfl⟩ := hr.slice
        exact ⟨a', c', he, hm, hr⟩
    · have hc := add_calls w0 w g last S x1 x2 h hb hn
      unfold AddP at hc
      simp only [if_neg hf] at hc
      exact hc
theorem both_drop (w0 : World) (g : Nat) (last : Int) (a : Option Addr) (c : Nat) (S : List It) (x1 : Int) (ok : Ok S last) (hn : S.length ≤ 4096) :
    ∃ (D : Bool) (S' : List It), S'.length ≤ 4096 ∧
      (∀ w, RfAt w (.slice a S.length c) S → Calls Try.prog 63 #[.agg #[.slice a S.length c, .int .i64 last], .int .i64 x1] w fun e w' => ∃ a' c', e = .returned (.tuple #[.agg #[.slice a' S'.length c', .int .i64 last], .bool D]) ∧ Mod w w' [] ∧ RfAt w' (.slice a' S'.length c') S') ∧
      (∀ w, AgW w0 w g last S → Calls Try.prog 26 #[.pointer (some ⟨g, 0, none⟩), .int .i64 x1] w fun e w' => e = .returned (.bool D) ∧ AgW w0 w' g last S' ∧ Keep w w') := by
  have hD : decide ((woI S x1).length < S.length) = hasI S x1 := by
    cases hh : hasI S x1 with
    | true => have := wo_len ok hh; exact decide_eq_true (by omega)
    | false => rw [wo_not hh]; exact decide_eq_false (by omega)
  refine ⟨hasI S x1, woI S x1, Nat.le_trans (List.length_filter_le _ _) hn, fun w h => ?_, fun w h => drop_calls w0 w g last S x1 h hn⟩
  refine (rdrop_calls (.slice a S.length c) last S x1 w h (by omega)).mono ?_
  rintro e w' ⟨v', he, hm, hr⟩
  obtain ⟨a', c', rfl⟩ := hr.slice
  rw [hD] at he
  exact ⟨a', c', he, hm, hr⟩
theorem both_first (w0 : World) (g : Nat) (last : Int) (a : Option Addr) (c : Nat) (S : List It) (hn : S.length ≤ 4096) :
    ∃ (D : Bool) (y1 y2 y3 : Int),
      (∀ w, RfAt w (.slice a S.length c) S → Calls Try.prog 64 #[.agg #[.slice a S.length c, .int .i64 last]] w fun e w' => e = .returned (.tuple #[.agg #[.int .i64 y1, .int .i64 y2, .int .i64 y3], .bool D]) ∧ Mod w w' []) ∧
      (∀ w, AgW w0 w g last S → Calls Try.prog 41 #[.pointer (some ⟨g, 0, none⟩)] w fun e w' => e = .returned (.tuple #[.agg #[.int .i64 y1, .int .i64 y2, .int .i64 y3], .bool D]) ∧ Mod w w' []) := by
  cases S with
  | nil => exact ⟨false, z0.1, z0.2.1, z0.2.2, fun w h => rfirst_empty last _ w h, fun w h => first_empty w0 w g last h⟩
  | cons s S =>
    have hl : S.length ≤ 5000 := by simp at hn; omega
    exact ⟨true, s.1, s.2.1, s.2.2, fun w h => rfirst_cons last _ s S w h hl, fun w h => first_cons w0 w g last s S h (by omega)⟩
theorem both_due (w0 : World) (g : Nat) (last : Int) (a : Option Addr) (c : Nat) (S : List It) (x1 : Int) (hn : S.length ≤ 4096) :
    ∃ (T S' : List It), T.length ≤ 4096 ∧ S'.length ≤ 4096 ∧
      (∀ w, RfAt w (.slice a S.length c) S → Calls Try.prog 65 #[.agg #[.slice a S.length c, .int .i64 last], .int .i64 x1] w fun e w' => ∃ a' c' a2 c2, e = .returned (.tuple #[.agg #[.slice a' S'.length c', .int .i64 last], .slice a2 T.length c2]) ∧ Mod w w' [] ∧ RfAt w' (.slice a' S'.length c') S' ∧ RfAt w' (.slice a2 T.length c2) T) ∧
      (∀ w, AgW w0 w g last S → Calls Try.prog 24 #[.pointer (some ⟨g, 0, none⟩), .int .i64 x1] w fun e w' => ∃ v', e = .returned v' ∧ AgW w0 w' g last S' ∧ ItAt w' w.heap.size v' T ∧ Keep w w') := by
  refine ⟨dueI S x1, leftI S x1, Nat.le_trans (List.takeWhile_sublist _).length_le hn, Nat.le_trans (List.dropWhile_sublist _).length_le hn, fun w h => ?_, fun w h => due_calls w0 w g last S x1 h hn⟩
  refine (rdue_calls (.slice a S.length c) last S x1 w h (by omega)).mono ?_
  rintro e w' ⟨v', u, he, hm, hr, hu⟩
  obtain ⟨a', c', rfl⟩ := hr.slice
  obtain ⟨a2, c2, rfl⟩ := hu.slice
  exact ⟨a', c', a2, c2, he, hm, hr, hu⟩

set_option maxHeartbeats 8000000 in
theorem does_calls (w0 w : World) (g : Nat) (last : Int) (v : Value) (S : List It) (k x1 x2 : Int) (h : AgW w0 w g last S) (hr : RfAt w v S) (hb : 0 ≤ last ∧ last ≤ 1000000000) (hn : S.length ≤ 4096) :
    Calls Try.prog 37 #[.pointer (some ⟨g, 0, none⟩), agV v last, .agg #[.int .i64 k, .int .i64 x1, .int .i64 x2]] w (DoesP w0 g last w) := by
  obtain ⟨a, c, rfl⟩ := hr.slice
  have HW0 := Lib.hid h.md.size
  have HD := Lib.hid (Du.new w (.slice a S.length c) last k x1 x2)
  have hm := (((Mod.refl w []).alloc (.cells #[.slice a S.length c, .int .i64 last] 75)).alloc (.cells #[.int .i64 k, .int .i64 x1, .int .i64 x2] 79)).alloc (.cells #[.slice none 0 0, .int .i64 0] 75)
  have HA := Lib.hid (h.mod hm)
  have HR := Lib.hid (hr.mod hm)
  have OK := Lib.hid h.ok
  have H0 := Lib.hid h
  have HR0 := Lib.hid hr
  clear h hr hm
  show Calls _ _ #[.pointer (some ⟨g, 0, none⟩), .agg #[.slice a S.length c, .int .i64 last], .agg #[.int .i64 k, .int .i64 x1, .int .i64 x2]] _ _
  go_enter Try.func37, Try.ntmps37
  by_cases k0 : k = 0
  · subst k0
    obtain ⟨L, ID, F, S', ⟨hL1, hL2, hS'⟩, hra, haa⟩ := both_add w0 g last a c S x1 x2 hb hn
    have RA := Lib.hid hra
    have AA := Lib.hid haa
    clear hra haa OK
    go_wp2_with fail
    generalize ((w.alloc _).alloc _).alloc _ = W at HD HA HR ⊢
    (with_reducible refine (RA.out _ HR.out).mono ?_)
    rintro e w1 ⟨a', c', rfl, hm1, hr1⟩
    have HT := Lib.hid (two_new w1 (.slice a' S'.length c') (.int .i64 L) 75)
    have HD1 := Lib.hid (HD.out.mod hm1)
    have HD2 := Lib.hid (HD1.out.mod HT.out.1)
    have HA2 := Lib.hid ((HA.out.mod hm1).mod HT.out.1)
    have HR2 := Lib.hid (hr1.mod HT.out.1)
    have e1 := HD1.out.bx.cell 1
    have e2 := HD1.out.bx.cell 2
    have hz1 : w.heap.size + 2 < w1.heap.size := HD1.out.bt.lt
    have hz0 : w.heap.size + 1 < w1.heap.size := by omega
    clear hm1 hr1 HD HA HR
    go_wp2_with fail
    generalize World.alloc w1 _ = W2 at HT HD2 HA2 HR2 ⊢
    clear e1 e2 HD1
    (with_reducible refine (AA.out _ HA2.out).mono ?_)
    rintro e w3 ⟨rfl, ha3, hk3⟩
    have HD3 := Lib.hid (HD2.out.keep hk3)
    have HN3 := Lib.hid (hk3 _ _ _ (by decide) (by decide) HT.out.2)
    have HF := Lib.hid (does_fin (last := last) HD3.out ha3 (HR2.out.keep hk3) HW0.out hL1 hL2 hS')
    have n0 := HN3.out.cell 0
    have n1 := HN3.out.cell 1
    have t0 := HD3.out.bt.cell 0
    have t1 := HD3.out.bt.cell 1
    have t2 := HD3.out.bt.free 0
    have t3 := HD3.out.bt.free 1
    have t4 := HD3.out.bt.lt
    clear ha3 hk3 HT HD2 HA2 HR2 HD3 HN3
    go_wp2_with fail
    generalize World.setCell (World.setCell w3 _ _) _ _ = wf at HF ⊢
    have f0 := HF.out.2.cell 0
    have f1 := HF.out.2.cell 1
    have f2 := HF.out.2.lt
    refine bodyPost_ret (v := .tuple #[.agg #[.slice a' S'.length c', .int .i64 L], .bool true]) (by simp [results, Try.results37, go_sem, f0, f1, f2]) rfl HF.out.1
  have q0 : (k == 0) = false := by simpa using k0
  by_cases k1 : k = 1
  · subst k1
    obtain ⟨D, S', hS', hra, haa⟩ := both_drop w0 g last a c S x1 OK.out hn
    obtain ⟨L, hL⟩ : ∃ L, L = last := ⟨_, rfl⟩
    have hL1 : last ≤ L := by omega
    have hL2 : L ≤ last + 1 := by omega
    subst hL
    have RA := Lib.hid hra
    have AA := Lib.hid haa
    have hDD : (D == D) = true := by simp
    clear hra haa OK k0
    go_wp2_with fail
    generalize ((w.alloc _).alloc _).alloc _ = W at HD HA HR ⊢
    (with_reducible refine (RA.out _ HR.out).mono ?_)
    rintro e w1 ⟨a', c', rfl, hm1, hr1⟩
    have HT := Lib.hid (two_new w1 (.slice a' S'.length c') (.int .i64 L) 75)
    have HD1 := Lib.hid (HD.out.mod hm1)
    have HD2 := Lib.hid (HD1.out.mod HT.out.1)
    have HA2 := Lib.hid ((HA.out.mod hm1).mod HT.out.1)
    have HR2 := Lib.hid (hr1.mod HT.out.1)
    have hz1 : w.heap.size + 2 < w1.heap.size := HD1.out.bt.lt
    have hz0 : w.heap.size + 1 < w1.heap.size := by omega
    clear hm1 hr1 HD HA HR
    go_wp2_with fail
    generalize World.alloc w1 _ = W2 at HT HD2 HA2 HR2 ⊢
    clear HD1
    have c0 := HT.out.2.cell 0
    have c1 := HT.out.2.cell 1
    have c2 := HD2.out.bx.cell 1
    refine He.wp_region_e 8 (fun w' => w'.cell? ⟨w1.heap.size, 0, none⟩ = some (.slice a' S'.length c') ∧ w'.cell? ⟨w1.heap.size, 1, none⟩ = some (.int .i64 L) ∧ w'.cell? ⟨w.heap.size + 1, 1, none⟩ = some (.int .i64 x1)) (by kernel_rfl) ⟨c0, c1, c2⟩ (fun S0 => ?_)
    have hmd : Mod W2 W2.drew [] := (Mod.refl _ _).drew
    have HD3 := Lib.hid (HD2.out.mod hmd)
    have HA3 := Lib.hid (HA2.out.mod hmd)
    have HR3 := Lib.hid (HR2.out.mod hmd)
    have HN3 := Lib.hid (HT.out.2.mod hmd (by simp))
    clear hmd HT HD2 HA2 HR2 c0 c1 c2
    generalize W2.drew = W3 at *
    refine He.wpE_take (i := 0) (v := ?_) rfl (by kernel_rfl) (by kernel_rfl) (by kernel_rfl) (by kernel_rfl) (by kernel_rfl) (fun _ _ _ h => h) (by rfl) ?_ (by assumption) ?_
    rotate_left
    · (intro w' hSw; (try dsimp only at hSw); go_simp; first | done | with_reducible rfl)
    try simp only [List.getElem_toArray, List.getElem_cons_succ, List.getElem_cons_zero, Act.put, List.setIfInBounds_toArray, List.set_cons_zero, List.set_cons_succ]
    refine He.wpE_take (i := 1) (v := ?_) rfl (by kernel_rfl) (by kernel_rfl) (by kernel_rfl) (by kernel_rfl) (by kernel_rfl) (fun _ _ _ h => h) (by rfl) ?_ (by assumption) ?_
    rotate_left
    · (intro w' hSw; (try dsimp only at hSw); go_simp; first | done | with_reducible rfl)
    try simp only [List.getElem_toArray, List.getElem_cons_succ, List.getElem_cons_zero, Act.put, List.setIfInBounds_toArray, List.set_cons_zero, List.set_cons_succ]
    refine He.wpE_take (i := 2) (v := ?_) rfl (by kernel_rfl) (by kernel_rfl) (by kernel_rfl) (by kernel_rfl) (by kernel_rfl) (fun _ _ _ h => h) (by rfl) ?_ (by assumption) ?_
    rotate_left
    · (intro w' hSw; (try dsimp only at hSw); go_simp; first | done | with_reducible rfl)
    try simp only [List.getElem_toArray, List.getElem_cons_succ, List.getElem_cons_zero, Act.put, List.setIfInBounds_toArray, List.set_cons_zero, List.set_cons_succ]
    refine He.wpE_take (i := 3) (v := ?_) rfl (by kernel_rfl) (by kernel_rfl) (by kernel_rfl) (by kernel_rfl) (by kernel_rfl) (fun _ _ _ h => h) (by rfl) ?_ (by assumption) ?_
    rotate_left
    · (intro w' hSw; (try dsimp only at hSw); go_simp; first | done | with_reducible rfl)
    try simp only [List.getElem_toArray, List.getElem_cons_succ, List.getElem_cons_zero, Act.put, List.setIfInBounds_toArray, List.set_cons_zero, List.set_cons_succ]
    refine He.wpE_take (i := 5) (v := ?_) rfl (by kernel_rfl) (by kernel_rfl) (by kernel_rfl) (by kernel_rfl) (by kernel_rfl) (fun _ _ _ h => h) (by rfl) ?_ (by assumption) ?_
    rotate_left
    · (intro w' hSw; (try dsimp only at hSw); go_simp; first | done | with_reducible rfl)
    try simp only [List.getElem_toArray, List.getElem_cons_succ, List.getElem_cons_zero, Act.put, List.setIfInBounds_toArray, List.set_cons_zero, List.set_cons_succ]
    refine He.wpE_one (i := 4) (by kernel_rfl) rfl (by rfl) (fun K hK => ?_)
    go_simp
    (with_reducible refine (AA.out _ HA3.out).mono ?_)
    rintro e w3 ⟨rfl, ha3, hk3⟩
    have HD4 := Lib.hid (HD3.out.keep hk3)
    have HN4 := Lib.hid (hk3 _ _ _ (by decide) (by decide) HN3.out)
    have HF := Lib.hid (does_fin (last := L) HD4.out ha3 (HR3.out.keep hk3) HW0.out hL1 hL2 hS')
    have S1 : w3.cell? ⟨w1.heap.size, 0, none⟩ = some (.slice a' S'.length c') ∧ w3.cell? ⟨w1.heap.size, 1, none⟩ = some (.int .i64 L) ∧ w3.cell? ⟨w.heap.size + 1, 1, none⟩ = some (.int .i64 x1) := ⟨HN4.out.cell 0, HN4.out.cell 1, HD4.out.bx.cell 1⟩
    clear ha3 hk3 HD3 HA3 HR3 HN3
    refine hK.out _ _ (fun _ => S1) ?_
    clear hK K
    try simp only [Act.put, List.setIfInBounds_toArray, List.set_cons_zero, List.set_cons_succ]
    refine He.wpE_take (i := 6) (v := ?_) rfl (by kernel_rfl) (by kernel_rfl) (by kernel_rfl) (by kernel_rfl) (by kernel_rfl) (fun _ _ _ h => h) (by rfl) ?_ (by assumption) ?_
    rotate_left
    · (intro w' hSw; (try dsimp only at hSw); go_simp; first | done | with_reducible rfl)
    try simp only [List.getElem_toArray, List.getElem_cons_succ, List.getElem_cons_zero, Act.put, List.setIfInBounds_toArray, List.set_cons_zero, List.set_cons_succ]
    have t0 := HD4.out.bt.cell 0
    have t1 := HD4.out.bt.cell 1
    have t2 := HD4.out.bt.free 0
    have t3 := HD4.out.bt.free 1
    have t4 := HD4.out.bt.lt
    refine He.wpE_one (i := 7) (by kernel_rfl) rfl (by rfl) (fun K hK => ?_)
    go_simp
    have hms := (two_set (u := .slice a' S'.length c') (v := .int .i64 L) HD4.out.bt).1
    have S2 := And.intro ((hms.cell (Rw.cell_lt S1.1) (by simp; omega)).trans S1.1) (And.intro ((hms.cell (Rw.cell_lt S1.2.1) (by simp; omega)).trans S1.2.1) ((hms.cell (Rw.cell_lt S1.2.2) (by simp)).trans S1.2.2))
    clear hms t0 t1 t2 t3 t4 HN4 S1
    refine hK.out _ _ (fun _ => S2) ?_
    clear hK K
    try simp only [Act.put, List.setIfInBounds_toArray, List.set_cons_zero, List.set_cons_succ]
    refine He.wpE_take (i := 8) (v := ?_) rfl (by kernel_rfl) (by kernel_rfl) (by kernel_rfl) (by kernel_rfl) (by kernel_rfl) (fun _ _ _ h => h) (by rfl) ?_ (by assumption) ?_
    rotate_left
    · (intro w' hSw; (try dsimp only at hSw); go_simp; first | done | with_reducible rfl)
    try simp only [List.getElem_toArray, List.getElem_cons_succ, List.getElem_cons_zero, Act.put, List.setIfInBounds_toArray, List.set_cons_zero, List.set_cons_succ]
    refine He.wpE_done (by kernel_rfl) ?_
    clear S2
    try simp only [Act.put, List.setIfInBounds_toArray, List.set_cons_zero, List.set_cons_succ]
    go_wp2_with fail
    generalize World.setCell (World.setCell w3 _ _) _ _ = wf at HF ⊢
    have f0 := HF.out.2.cell 0
    have f1 := HF.out.2.cell 1
    have f2 := HF.out.2.lt
    refine bodyPost_ret (v := .tuple #[.agg #[.slice a' S'.length c', .int .i64 L], .bool true]) (by simp [results, Try.results37, go_sem, f0, f1, f2]) rfl HF.out.1
  have q1 : (k == 1) = false := by simpa using k1
  by_cases k2 : k = 2
  · subst k2
    obtain ⟨D, y1, y2, y3, hra, haa⟩ := both_first w0 g last a c S hn
    obtain ⟨L, hL⟩ : ∃ L, L = last := ⟨_, rfl⟩
    have hL1 : last ≤ L := by omega
    have hL2 : L ≤ last + 1 := by omega
    obtain ⟨a', ha'⟩ : ∃ a', a' = a := ⟨_, rfl⟩
    obtain ⟨c', hc'⟩ : ∃ c', c' = c := ⟨_, rfl⟩
    obtain ⟨S', hS''⟩ : ∃ S', S' = S := ⟨_, rfl⟩
    subst hL ha' hc' hS''
    have hS' := hn
    have RA := Lib.hid hra
    have AA := Lib.hid haa
    have hDD : (D == D) = true := by simp
    clear hra haa OK k0 k1
    go_wp2_with fail
    generalize ((w.alloc _).alloc _).alloc _ = W at HD HA HR ⊢
    (with_reducible refine (RA.out _ HR.out).mono ?_)
    rintro e w1 ⟨rfl, hm1⟩
    have HT := Lib.hid (three_new w1 (.int .i64 y1) (.int .i64 y2) (.int .i64 y3) 127)
    have HD2 := Lib.hid ((HD.out.mod hm1).mod HT.out.1)
    have HA2 := Lib.hid ((HA.out.mod hm1).mod HT.out.1)
    have HR2 := Lib.hid ((HR.out.mod hm1).mod HT.out.1)
    clear hm1 HD HA HR
    go_wp2_with fail
    generalize World.alloc w1 _ = W2 at HT HD2 HA2 HR2 ⊢
    (with_reducible refine (AA.out _ HA2.out).mono ?_)
    rintro e w3 ⟨rfl, hm3⟩
    have HT3 := Lib.hid (three_new w3 (.int .i64 y1) (.int .i64 y2) (.int .i64 y3) 47)
    have HD3 := Lib.hid ((HD2.out.mod hm3).mod HT3.out.1)
    have HA3 := Lib.hid ((HA2.out.mod hm3).mod HT3.out.1)
    have HR3 := Lib.hid ((HR2.out.mod hm3).mod HT3.out.1)
    have HN3 := Lib.hid ((HT.out.2.mod hm3 (by simp)).mod HT3.out.1 (by simp))
    clear hm3 HD2 HA2 HR2 HT
    go_wp2_with fail
    generalize World.alloc w3 _ = W3 at HT3 HD3 HA3 HR3 HN3 ⊢
    have HF := Lib.hid (does_fin (last := L) (HD3.out.mod (Mod.refl W3 []).drew) (HA3.out.mod (Mod.refl W3 []).drew) (HR3.out.mod (Mod.refl W3 []).drew) HW0.out hL1 hL2 hS')
    have HN4 := Lib.hid (HN3.out.drew)
    have HT4 := Lib.hid (HT3.out.2.drew)
    have HD4 := Lib.hid (HD3.out.mod (Mod.refl W3 []).drew)
    clear HT3 HD3 HA3 HR3 HN3
    refine He.wp_region_e 10 (fun w' => w'.cell? ⟨w.heap.size, 0, none⟩ = some (.slice a' S'.length c') ∧ w'.cell? ⟨w.heap.size, 1, none⟩ = some (.int .i64 L) ∧ w'.cell? ⟨w1.heap.size, 0, none⟩ = some (.int .i64 y1) ∧ w'.cell? ⟨w1.heap.size, 1, none⟩ = some (.int .i64 y2) ∧ w'.cell? ⟨w1.heap.size, 2, none⟩ = some (.int .i64 y3) ∧ w'.cell? ⟨w3.heap.size, 0, none⟩ = some (.int .i64 y1) ∧ w'.cell? ⟨w3.heap.size, 1, none⟩ = some (.int .i64 y2) ∧ w'.cell? ⟨w3.heap.size, 2, none⟩ = some (.int .i64 y3)) (by kernel_rfl) ⟨HD4.out.br.cell 0, HD4.out.br.cell 1, HN4.out.cell 0, HN4.out.cell 1, HN4.out.cell 2, HT4.out.cell 0, HT4.out.cell 1, HT4.out.cell 2⟩ (fun S1 => ?_)
    generalize W3.drew = W4 at *
    refine He.wpE_take (i := 0) (v := ?_) rfl (by kernel_rfl) (by kernel_rfl) (by kernel_rfl) (by kernel_rfl) (by kernel_rfl) (fun _ _ _ h => h) (by rfl) ?_ (by assumption) ?_
    rotate_left
    · (intro w' hSw; (try dsimp only at hSw); go_simp; first | done | with_reducible rfl)
    try simp only [List.getElem_toArray, List.getElem_cons_succ, List.getElem_cons_zero, Act.put, List.setIfInBounds_toArray, List.set_cons_zero, List.set_cons_succ]
    refine He.wpE_take (i := 1) (v := ?_) rfl (by kernel_rfl) (by kernel_rfl) (by kernel_rfl) (by kernel_rfl) (by kernel_rfl) (fun _ _ _ h => h) (by rfl) ?_ (by assumption) ?_
    rotate_left
    · (intro w' hSw; (try dsimp only at hSw); go_simp; first | done | with_reducible rfl)
    try simp only [List.getElem_toArray, List.getElem_cons_succ, List.getElem_cons_zero, Act.put, List.setIfInBounds_toArray, List.set_cons_zero, List.set_cons_succ]
    refine He.wpE_take (i := 2) (v := ?_) rfl (by kernel_rfl) (by kernel_rfl) (by kernel_rfl) (by kernel_rfl) (by kernel_rfl) (fun _ _ _ h => h) (by rfl) ?_ (by assumption) ?_
    rotate_left
    · (intro w' hSw; (try dsimp only at hSw); go_simp; first | done | with_reducible rfl)
    try simp only [List.getElem_toArray, List.getElem_cons_succ, List.getElem_cons_zero, Act.put, List.setIfInBounds_toArray, List.set_cons_zero, List.set_cons_succ]
    refine He.wpE_take (i := 3) (v := ?_) rfl (by kernel_rfl) (by kernel_rfl) (by kernel_rfl) (by kernel_rfl) (by kernel_rfl) (fun _ _ _ h => h) (by rfl) ?_ (by assumption) ?_
    rotate_left
    · (intro w' hSw; (try dsimp only at hSw); go_simp; first | done | with_reducible rfl)
    try simp only [List.getElem_toArray, List.getElem_cons_succ, List.getElem_cons_zero, Act.put, List.setIfInBounds_toArray, List.set_cons_zero, List.set_cons_succ]
    refine He.wpE_take (i := 4) (v := ?_) rfl (by kernel_rfl) (by kernel_rfl) (by kernel_rfl) (by kernel_rfl) (by kernel_rfl) (fun _ _ _ h => h) (by rfl) ?_ (by assumption) ?_
    rotate_left
    · (intro w' hSw; (try dsimp only at hSw); go_simp; first | done | with_reducible rfl)
    try simp only [List.getElem_toArray, List.getElem_cons_succ, List.getElem_cons_zero, Act.put, List.setIfInBounds_toArray, List.set_cons_zero, List.set_cons_succ]
    refine He.wpE_take (i := 5) (v := ?_) rfl (by kernel_rfl) (by kernel_rfl) (by kernel_rfl) (by kernel_rfl) (by kernel_rfl) (fun _ _ _ h => h) (by rfl) ?_ (by assumption) ?_
    rotate_left
    · (intro w' hSw; (try dsimp only at hSw); go_simp; first | done | with_reducible rfl)
    try simp only [List.getElem_toArray, List.getElem_cons_succ, List.getElem_cons_zero, Act.put, List.setIfInBounds_toArray, List.set_cons_zero, List.set_cons_succ]
    refine He.wpE_take (i := 6) (v := ?_) rfl (by kernel_rfl) (by kernel_rfl) (by kernel_rfl) (by kernel_rfl) (by kernel_rfl) (fun _ _ _ h => h) (by rfl) ?_ (by assumption) ?_
    rotate_left
    · (intro w' hSw; (try dsimp only at hSw); go_simp; first | done | with_reducible rfl)
    try simp only [List.getElem_toArray, List.getElem_cons_succ, List.getElem_cons_zero, Act.put, List.setIfInBounds_toArray, List.set_cons_zero, List.set_cons_succ]
    refine He.wpE_take (i := 7) (v := ?_) rfl (by kernel_rfl) (by kernel_rfl) (by kernel_rfl) (by kernel_rfl) (by kernel_rfl) (fun _ _ _ h => h) (by rfl) ?_ (by assumption) ?_
    rotate_left
    · (intro w' hSw; (try dsimp only at hSw); go_simp; first | done | with_reducible rfl)
    try simp only [List.getElem_toArray, List.getElem_cons_succ, List.getElem_cons_zero, Act.put, List.setIfInBounds_toArray, List.set_cons_zero, List.set_cons_succ]
    refine He.wpE_take (i := 8) (v := ?_) rfl (by kernel_rfl) (by kernel_rfl) (by kernel_rfl) (by kernel_rfl) (by kernel_rfl) (fun _ _ _ h => h) (by rfl) ?_ (by assumption) ?_
    rotate_left
    · (intro w' hSw; (try dsimp only at hSw); go_simp; first | done | with_reducible rfl)
    try simp only [List.getElem_toArray, List.getElem_cons_succ, List.getElem_cons_zero, Act.put, List.setIfInBounds_toArray, List.set_cons_zero, List.set_cons_succ]
    have t0 := HD4.out.bt.cell 0
    have t1 := HD4.out.bt.cell 1
    have t2 := HD4.out.bt.free 0
    have t3 := HD4.out.bt.free 1
    have t4 := HD4.out.bt.lt
    refine He.wpE_one (i := 9) (by kernel_rfl) rfl (by rfl) (fun K hK => ?_)
    go_simp
    have hms := (two_set (u := .slice a' S'.length c') (v := .int .i64 L) HD4.out.bt).1
    have hne1 : w1.heap.size ≠ w.heap.size + 2 := by rintro e; have := blk_ne HD4.out.bt (e ▸ HN4.out); revert this; decide
    have hne3 : w3.heap.size ≠ w.heap.size + 2 := by rintro e; have := blk_ne HD4.out.bt (e ▸ HT4.out); revert this; decide
    obtain ⟨s0, s1, s2, s3, s4, s5, s6, s7⟩ := S1
    have S2 := And.intro ((hms.cell (Rw.cell_lt s0) (by simp)).trans s0) (And.intro ((hms.cell (Rw.cell_lt s1) (by simp)).trans s1) (And.intro ((hms.cell (Rw.cell_lt s2) (by simpa using hne1)).trans s2) (And.intro ((hms.cell (Rw.cell_lt s3) (by simpa using hne1)).trans s3) (And.intro ((hms.cell (Rw.cell_lt s4) (by simpa using hne1)).trans s4) (And.intro ((hms.cell (Rw.cell_lt s5) (by simpa using hne3)).trans s5) (And.intro ((hms.cell (Rw.cell_lt s6) (by simpa using hne3)).trans s6) ((hms.cell (Rw.cell_lt s7) (by simpa using hne3)).trans s7)))))))
    clear hms t0 t1 t2 t3 t4 HN4 HT4 s0 s1 s2 s3 s4 s5 s6 s7 hne1 hne3
    refine hK.out _ _ (fun _ => S2) ?_
    clear hK K
    try simp only [Act.put, List.setIfInBounds_toArray, List.set_cons_zero, List.set_cons_succ]
    refine He.wpE_take (i := 10) (v := ?_) rfl (by kernel_rfl) (by kernel_rfl) (by kernel_rfl) (by kernel_rfl) (by kernel_rfl) (fun _ _ _ h => h) (by rfl) ?_ (by assumption) ?_
    rotate_left
    · (intro w' hSw; (try dsimp only at hSw); go_simp; first | done | with_reducible rfl)
    try simp only [List.getElem_toArray, List.getElem_cons_succ, List.getElem_cons_zero, Act.put, List.setIfInBounds_toArray, List.set_cons_zero, List.set_cons_succ]
    refine He.wpE_done (by kernel_rfl) ?_
    clear S2
    try simp only [Act.put, List.setIfInBounds_toArray, List.set_cons_zero, List.set_cons_succ]
    go_wp2_with fail
    generalize World.setCell (World.setCell W4 _ _) _ _ = wf at HF ⊢
    have f0 := HF.out.2.cell 0
    have f1 := HF.out.2.cell 1
    have f2 := HF.out.2.lt
    refine bodyPost_ret (v := .tuple #[.agg #[.slice a' S'.length c', .int .i64 L], .bool true]) (by simp [results, Try.results37, go_sem, f0, f1, f2]) rfl HF.out.1
  have q2 : (k == 2) = false := by simpa using k2
  by_cases k3 : k = 3
  · subst k3
    obtain ⟨T, S', hT', hS', hra, haa⟩ := both_due w0 g last a c S x1 hn
    obtain ⟨L, hL⟩ : ∃ L, L = last := ⟨_, rfl⟩
    have hL1 : last ≤ L := by omega
    have hL2 : L ≤ last + 1 := by omega
    subst hL
    have RA := Lib.hid hra
    have AA := Lib.hid haa
    have RF := Lib.hid (fun base v w h => refs_calls base v T w h (by omega))
    have SC := Lib.hid (fun v1 v2 w h1 h2 => same_calls v1 v2 T T w h1 h2 (by omega) (by omega))
    rw [decide_eq_true (rfl : T = T)] at SC
    clear hra haa OK k0 k1 k2
    go_wp2_with fail
    generalize ((w.alloc _).alloc _).alloc _ = W at HD HA HR ⊢
    (with_reducible refine (RA.out _ HR.out).mono ?_)
    rintro e w1 ⟨a', c', a2, c2, rfl, hm1, hr1, hu1⟩
    have HT := Lib.hid (two_new w1 (.slice a' S'.length c') (.int .i64 L) 75)
    have HD1 := Lib.hid (HD.out.mod hm1)
    have HD2 := Lib.hid (HD1.out.mod HT.out.1)
    have HA2 := Lib.hid ((HA.out.mod hm1).mod HT.out.1)
    have HR2 := Lib.hid (hr1.mod HT.out.1)
    have HU2 := Lib.hid (hu1.mod HT.out.1)
    have hz1 : w.heap.size + 2 < w1.heap.size := HD1.out.bt.lt
    have hz0 : w.heap.size + 1 < w1.heap.size := by omega
    clear hm1 hr1 hu1 HD HA HR
    go_wp2_with fail
    generalize World.alloc w1 _ = W2 at HT HD2 HA2 HR2 HU2 ⊢
    clear HD1
    have c0 := HT.out.2.cell 0
    have c1 := HT.out.2.cell 1
    have c2 := HD2.out.bx.cell 1
    refine He.wp_region_e 9 (fun w' => w'.cell? ⟨w1.heap.size, 0, none⟩ = some (.slice a' S'.length c') ∧ w'.cell? ⟨w1.heap.size, 1, none⟩ = some (.int .i64 L) ∧ w'.cell? ⟨w.heap.size + 1, 1, none⟩ = some (.int .i64 x1)) (by kernel_rfl) ⟨c0, c1, c2⟩ (fun S0 => ?_)
    have hmd : Mod W2 W2.drew [] := (Mod.refl _ _).drew
    have HD3 := Lib.hid (HD2.out.mod hmd)
    have HA3 := Lib.hid (HA2.out.mod hmd)
    have HR3 := Lib.hid (HR2.out.mod hmd)
    have HU3 := Lib.hid (HU2.out.mod hmd)
    have HN3 := Lib.hid (HT.out.2.mod hmd (by simp))
    clear hmd HT HD2 HA2 HR2 HU2 c0 c1 c2
    generalize W2.drew = W3 at *
    refine He.wpE_take (i := 0) (v := ?_) rfl (by kernel_rfl) (by kernel_rfl) (by kernel_rfl) (by kernel_rfl) (by kernel_rfl) (fun _ _ _ h => h) (by rfl) ?_ (by assumption) ?_
    rotate_left
    · (intro w' hSw; (try dsimp only at hSw); go_simp; first | done | with_reducible rfl)
    try simp only [List.getElem_toArray, List.getElem_cons_succ, List.getElem_cons_zero, Act.put, List.setIfInBounds_toArray, List.set_cons_zero, List.set_cons_succ]
    refine He.wpE_take (i := 1) (v := ?_) rfl (by kernel_rfl) (by kernel_rfl) (by kernel_rfl) (by kernel_rfl) (by kernel_rfl) (fun _ _ _ h => h) (by rfl) ?_ (by assumption) ?_
    rotate_left
    · (intro w' hSw; (try dsimp only at hSw); go_simp; first | done | with_reducible rfl)
    try simp only [List.getElem_toArray, List.getElem_cons_succ, List.getElem_cons_zero, Act.put, List.setIfInBounds_toArray, List.set_cons_zero, List.set_cons_succ]
    refine He.wpE_take (i := 2) (v := ?_) rfl (by kernel_rfl) (by kernel_rfl) (by kernel_rfl) (by kernel_rfl) (by kernel_rfl) (fun _ _ _ h => h) (by rfl) ?_ (by assumption) ?_
    rotate_left
    · (intro w' hSw; (try dsimp only at hSw); go_simp; first | done | with_reducible rfl)
    try simp only [List.getElem_toArray, List.getElem_cons_succ, List.getElem_cons_zero, Act.put, List.setIfInBounds_toArray, List.set_cons_zero, List.set_cons_succ]
    refine He.wpE_take (i := 3) (v := ?_) rfl (by kernel_rfl) (by kernel_rfl) (by kernel_rfl) (by kernel_rfl) (by kernel_rfl) (fun _ _ _ h => h) (by rfl) ?_ (by assumption) ?_
    rotate_left
    · (intro w' hSw; (try dsimp only at hSw); go_simp; first | done | with_reducible rfl)
    try simp only [List.getElem_toArray, List.getElem_cons_succ, List.getElem_cons_zero, Act.put, List.setIfInBounds_toArray, List.set_cons_zero, List.set_cons_succ]
    refine He.wpE_take (i := 6) (v := ?_) rfl (by kernel_rfl) (by kernel_rfl) (by kernel_rfl) (by kernel_rfl) (by kernel_rfl) (fun _ _ _ h => h) (by rfl) ?_ (by assumption) ?_
    rotate_left
    · (intro w' hSw; (try dsimp only at hSw); go_simp; first | done | with_reducible rfl)
    try simp only [List.getElem_toArray, List.getElem_cons_succ, List.getElem_cons_zero, Act.put, List.setIfInBounds_toArray, List.set_cons_zero, List.set_cons_succ]
    refine He.wpE_one (i := 4) (by kernel_rfl) rfl (by rfl) (fun K hK => ?_)
    go_simp
    (with_reducible refine (AA.out _ HA3.out).mono ?_)
    rintro e w3 ⟨vd, rfl, ha3, hi3, hk3⟩
    have HD4 := Lib.hid (HD3.out.keep hk3)
    have HA4 := Lib.hid ha3
    have HI4 := Lib.hid hi3
    have HR4 := Lib.hid (HR3.out.keep hk3)
    have HU4 := Lib.hid (HU3.out.keep hk3)
    have HN4 := Lib.hid (hk3 _ _ _ (by decide) (by decide) HN3.out)
    have S1 : w3.cell? ⟨w1.heap.size, 0, none⟩ = some (.slice a' S'.length c') ∧ w3.cell? ⟨w1.heap.size, 1, none⟩ = some (.int .i64 L) ∧ w3.cell? ⟨w.heap.size + 1, 1, none⟩ = some (.int .i64 x1) := ⟨HN4.out.cell 0, HN4.out.cell 1, HD4.out.bx.cell 1⟩
    clear ha3 hi3 hk3 HD3 HA3 HR3 HU3 HN3
    refine hK.out _ _ (fun _ => S1) ?_
    clear hK K
    try simp only [Act.put, List.setIfInBounds_toArray, List.set_cons_zero, List.set_cons_succ]
    refine He.wpE_one (i := 5) (by kernel_rfl) rfl (by rfl) (fun K hK => ?_)
    go_simp
    refine (RF.out _ _ _ HI4.out).mono ?_
    rintro e z4 ⟨vr, rfl, hm4, hr4⟩
    have HV5 := Lib.hid hr4.rf
    have HD5 := Lib.hid (HD4.out.mod hm4)
    have HA5 := Lib.hid (HA4.out.mod hm4)
    have HR5 := Lib.hid (HR4.out.mod hm4)
    have HU5 := Lib.hid (HU4.out.mod hm4)
    have HN5 := Lib.hid (HN4.out.mod hm4 (by simp))
    have S2 : z4.cell? ⟨w1.heap.size, 0, none⟩ = some (.slice a' S'.length c') ∧ z4.cell? ⟨w1.heap.size, 1, none⟩ = some (.int .i64 L) ∧ z4.cell? ⟨w.heap.size + 1, 1, none⟩ = some (.int .i64 x1) := ⟨HN5.out.cell 0, HN5.out.cell 1, HD5.out.bx.cell 1⟩
    clear hm4 hr4 S1 HD4 HA4 HR4 HU4 HN4 HI4
    refine hK.out _ _ (fun _ => S2) ?_
    clear hK K
    try simp only [Act.put, List.setIfInBounds_toArray, List.set_cons_zero, List.set_cons_succ]
    refine He.wpE_one (i := 7) (by kernel_rfl) rfl (by rfl) (fun K hK => ?_)
    go_simp
    refine (SC.out _ _ _ HV5.out HU5.out).mono ?_
    rintro e z5 ⟨rfl, hm5⟩
    have HD6 := Lib.hid (HD5.out.mod hm5)
    have HN6 := Lib.hid (HN5.out.mod hm5 (by simp))
    have HF := Lib.hid (does_fin (last := L) HD6.out (HA5.out.mod hm5) (HR5.out.mod hm5) HW0.out hL1 hL2 hS')
    have S3 : z5.cell? ⟨w1.heap.size, 0, none⟩ = some (.slice a' S'.length c') ∧ z5.cell? ⟨w1.heap.size, 1, none⟩ = some (.int .i64 L) ∧ z5.cell? ⟨w.heap.size + 1, 1, none⟩ = some (.int .i64 x1) := ⟨HN6.out.cell 0, HN6.out.cell 1, HD6.out.bx.cell 1⟩
    clear hm5 S2 HD5 HA5 HR5 HU5 HN5 HV5
    refine hK.out _ _ (fun _ => S3) ?_
    clear hK K
    try simp only [Act.put, List.setIfInBounds_toArray, List.set_cons_zero, List.set_cons_succ]
    have t0 := HD6.out.bt.cell 0
    have t1 := HD6.out.bt.cell 1
    have t2 := HD6.out.bt.free 0
    have t3 := HD6.out.bt.free 1
    have t4 := HD6.out.bt.lt
    refine He.wpE_one (i := 8) (by kernel_rfl) rfl (by rfl) (fun K hK => ?_)
    go_simp
    have hms := (two_set (u := .slice a' S'.length c') (v := .int .i64 L) HD6.out.bt).1
    have S4 := And.intro ((hms.cell (Rw.cell_lt S3.1) (by simp; omega)).trans S3.1) (And.intro ((hms.cell (Rw.cell_lt S3.2.1) (by simp; omega)).trans S3.2.1) ((hms.cell (Rw.cell_lt S3.2.2) (by simp)).trans S3.2.2))
    clear hms t0 t1 t2 t3 t4 HN6 S3
    refine hK.out _ _ (fun _ => S4) ?_
    clear hK K
    try simp only [Act.put, List.setIfInBounds_toArray, List.set_cons_zero, List.set_cons_succ]
    refine He.wpE_take (i := 9) (v := ?_) rfl (by kernel_rfl) (by kernel_rfl) (by kernel_rfl) (by kernel_rfl) (by kernel_rfl) (fun _ _ _ h => h) (by rfl) ?_ (by assumption) ?_
    rotate_left
    · (intro w' hSw; (try dsimp only at hSw); go_simp; first | done | with_reducible rfl)
    try simp only [List.getElem_toArray, List.getElem_cons_succ, List.getElem_cons_zero, Act.put, List.setIfInBounds_toArray, List.set_cons_zero, List.set_cons_succ]
    refine He.wpE_done (by kernel_rfl) ?_
    clear S4
    try simp only [Act.put, List.setIfInBounds_toArray, List.set_cons_zero, List.set_cons_succ]
    go_wp2_with fail
    generalize World.setCell (World.setCell z5 _ _) _ _ = wf at HF ⊢
    have f0 := HF.out.2.cell 0
    have f1 := HF.out.2.cell 1
    have f2 := HF.out.2.lt
    refine bodyPost_ret (v := .tuple #[.agg #[.slice a' S'.length c', .int .i64 L], .bool true]) (by simp [results, Try.results37, go_sem, f0, f1, f2]) rfl HF.out.1
  have q3 : (k == 3) = false := by simpa using k3
  obtain ⟨L, hL⟩ : ∃ L, L = last := ⟨_, rfl⟩
  have hL1 : last ≤ L := by omega
  have hL2 : L ≤ last + 1 := by omega
  obtain ⟨a', ha'⟩ : ∃ a', a' = a := ⟨_, rfl⟩
  obtain ⟨c', hc'⟩ : ∃ c', c' = c := ⟨_, rfl⟩
  obtain ⟨S', hS''⟩ : ∃ S', S' = S := ⟨_, rfl⟩
  subst hL ha' hc' hS''
  have hS' := hn
  have hmz := (((Mod.refl w []).alloc (.cells #[.slice a' S'.length c', .int .i64 L] 75)).alloc (.cells #[.int .i64 k, .int .i64 x1, .int .i64 x2] 79)).alloc (.cells #[.slice a' S'.length c', .int .i64 L] 75)
  have hbz := Blk.new ((w.alloc (.cells #[.slice a' S'.length c', .int .i64 L] 75)).alloc (.cells #[.int .i64 k, .int .i64 x1, .int .i64 x2] 79)) #[.slice a' S'.length c', .int .i64 L] 75
  rw [World.size_alloc, World.size_alloc] at hbz
  have HF : Hid (DoesP w0 g L w (.returned (.tuple #[.agg #[.slice a' S'.length c', .int .i64 L], .bool true])) (((w.alloc (.cells #[.slice a' S'.length c', .int .i64 L] 75)).alloc (.cells #[.int .i64 k, .int .i64 x1, .int .i64 x2] 79)).alloc (.cells #[.slice a' S'.length c', .int .i64 L] 75)) ∧ Blk (((w.alloc (.cells #[.slice a' S'.length c', .int .i64 L] 75)).alloc (.cells #[.int .i64 k, .int .i64 x1, .int .i64 x2] 79)).alloc (.cells #[.slice a' S'.length c', .int .i64 L] 75)) (w.heap.size + 2) #[.slice a' S'.length c', .int .i64 L] 75) := Lib.hid
    ⟨⟨.slice a' S'.length c', L, S', rfl, H0.out.mod hmz, HR0.out.mod hmz, Keep.mod hmz, hL1, hL2, hS'⟩, hbz⟩
  clear OK k0 k1 k2 k3 HD HA HR hmz hbz H0 HR0
  go_wp2_with fail
  generalize ((w.alloc _).alloc _).alloc _ = wf at HF ⊢
  have f0 := HF.out.2.cell 0
  have f1 := HF.out.2.cell 1
  have f2 := HF.out.2.lt
  refine bodyPost_ret (v := .tuple #[.agg #[.slice a' S'.length c', .int .i64 L], .bool true]) (by simp [results, Try.results37, go_sem, f0, f1, f2]) rfl HF.out.1
end Go.Proofs.Ytceocpohdckkoaa.Ag
