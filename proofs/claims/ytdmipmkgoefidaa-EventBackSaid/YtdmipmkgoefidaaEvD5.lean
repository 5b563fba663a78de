/- The contract of the reference's Decode. -/
import Derived.Test.YtdmipmkgoefidaaEvD4
namespace Go.Proofs.Ytdmipmkgoefidaa.Ev
open Go.RowKit Mem Bits EvH
set_option linter.unusedSimpArgs false
set_option linter.unusedVariables false
set_option maxRecDepth 100000
attribute [local go_sem ↓] Go.wp_at_zero Go.wp_at_succ
theorem gen_calls {prog : Program} {f : Nat} {args : Array Value} {w : World} {post : Ending → World → Prop} (R : World → Prop) (hr : R w) (h : ∀ w, R w → Calls prog f args w post) : Calls prog f args w post := h w hr
theorem gen_wp {prog : Program} {c : Code} {Q : Exit → Act → World → Prop} {a : Act} {w : World} (R : World → Prop) (hr : R w) (h : ∀ w, R w → c.wp prog Q a w) : c.wp prog Q a w := h w hr
theorem gen_wpl {P : Program} {ops : Array Oper} {Q : Exit → Act → World → Prop} {l : List Oper} {a : Act} {w : World} (R : World → Prop) (hr : R w) (h : ∀ w, R w → wpList P ops Q l a w) : wpList P ops Q l a w := h w hr
theorem hold {p : Prop} (h : Hid p) : p := h.out
theorem own_lt {w : World} {base : Nat} {e : TypeId} {size : Nat} {v : Value} {n : Nat} {xs : List Value} (h : w.ownsRow base e size v n xs) : ∀ k, v.ownBlock = some k → k < w.heap.size := by
  obtain ⟨h0, ⟨rfl, h1⟩ | ⟨g, cap, cur, rfl, hg, hb, h2, h3, h4, h5⟩⟩ := h
  · intro k hk; cases hk
  · intro k hk
    have hb' : Blk w g cur e := hb
    have := hb'.lt
    simp [Value.ownBlock] at hk
    omega

/-- A round's state: the tape in block B, the event in block G. -/
structure SW (W6 : World) (B G N : Nat) (E : Array Value) (v : Value) (i : Nat) (F : List Value) (tp : Tp) (W : World) : Prop where
  m : Mod W6 W [B, G]
  t : Blk W B #[.string tp.1, .int .i64 tp.2] 80
  g : Blk W G E 32
  o : W.ownsRow W6.heap.size 64 5 v i F
  n : N ≤ W.heap.size
  lt : B < G ∧ G < W6.heap.size ∧ W6.heap.size ≤ N
  b : ∀ k, v.ownBlock = some k → W6.heap.size ≤ k ∧ k < N
section
variable {W6 W W' : World} {B G N : Nat} {E : Array Value} {v : Value} {i : Nat} {F : List Value} {tp : Tp}
theorem SW.mod (h : SW W6 B G N E v i F tp W) (m : Mod W W' []) : SW W6 B G N E v i F tp W' :=
  ⟨h.m.trans0 m, h.t.mod m (by simp), h.g.mod m (by simp), own_mod h.o m (by simp), Nat.le_trans h.n m.size, h.lt, h.b⟩
theorem SW.alloc (h : SW W6 B G N E v i F tp W) (o : Obj) : SW W6 B G N E v i F tp (W.alloc o) := h.mod ((Mod.refl W []).alloc o)
theorem SW.drew (h : SW W6 B G N E v i F tp W) : SW W6 B G N E v i F tp W.drew := h.mod ((Mod.refl W []).drew)
theorem SW.tape (h : SW W6 B G N E v i F tp W) (s : ByteArray) (e : Int) : SW W6 B G N E v i F (s, e) ((W.setCell ⟨B, 0, none⟩ (.string s)).setCell ⟨B, 1, none⟩ (.int .i64 e)) := by
  have hm : Mod W ((W.setCell ⟨B, 0, none⟩ (.string s)).setCell ⟨B, 1, none⟩ (.int .i64 e)) [B] := ((Mod.refl W [B]).setCell (by simp) _).setCell (by simp) _
  have := h.lt
  exact ⟨h.m.trans hm (by simp), (h.t.set 0 _).set 1 _, h.g.mod hm (by simp; omega), own_mod h.o hm (fun k hk => by have := h.b k hk; simp; omega), Nat.le_trans h.n hm.size, h.lt, h.b⟩
theorem SW.far (h : SW W6 B G N E v i F tp W) {p : Addr} (hp : N ≤ p.block) (u : Value) : SW W6 B G N E v i F tp (W.setCell p u) := by
  have hm : Mod W (W.setCell p u) [p.block] := (Mod.refl W [p.block]).setCell (by simp) _
  have := h.lt
  exact ⟨h.m.trans hm (by simp; omega), h.t.mod hm (by simp; omega), h.g.mod hm (by simp; omega), own_mod h.o hm (fun k hk => by have := h.b k hk; simp; omega), Nat.le_trans h.n hm.size, h.lt, h.b⟩
end

theorem rNumT (t : Tp) (ht : t.1.size ≤ 1000000) (w : World) : Calls Try.prog 46 #[tapeV t.1 t.2] w fun e w' => e = .returned (.tuple #[tapeV (tpN t).1 (tpN t).2, .int .u64 (tN t.1 t.2)]) ∧ Mod w w' [] := rNum_calls t.1 t.2 w (by omega)
theorem rIntT (t : Tp) (ht : t.1.size ≤ 1000000) (w : World) : Calls Try.prog 49 #[tapeV t.1 t.2] w fun e w' => e = .returned (.tuple #[tapeV (tpN t).1 (tpN t).2, .int .i64 (unfoldI (tN t.1 t.2))]) ∧ Mod w w' [] := rInt_calls t.1 t.2 w (by omega)
theorem rRealT (t : Tp) (ht : t.1.size ≤ 1000000) (w : World) : Calls Try.prog 50 #[tapeV t.1 t.2] w fun e w' => e = .returned (.tuple #[tapeV (tpR t).1 (tpR t).2, .float .f64 (realR t.1 t.2).1]) ∧ Mod w w' [] := rReal_calls t.1 t.2 w (by omega)
theorem rTextT (t : Tp) (most : Int) (hm : 0 ≤ most ∧ most ≤ 64) (ht : t.1.size ≤ 1000000) (w : World) : Calls Try.prog 47 #[tapeV t.1 t.2, .int .i64 most] w fun e w' => e = .returned (.tuple #[tapeV (tpT t most).1 (tpT t most).2, .string (textR t.1 t.2 most).1]) ∧ Mod w w' [] := rText_calls t.1 t.2 most (by omega) (by omega) w (by omega)

def RNumAt (s : Tp) (x : Nat) (t : Tp) : Prop := ∀ w, Calls Try.prog 46 #[tapeV s.1 s.2] w fun e w' => e = .returned (.tuple #[tapeV t.1 t.2, .int .u64 x]) ∧ Mod w w' []
def LimAt (x m : Nat) (a : Int) : Prop := ∀ w, Calls Try.prog 48 #[.int .u64 x, .int .u64 m] w fun e w' => e = .returned (.int .i64 a) ∧ w = w'

set_option maxHeartbeats 8000000 in
theorem rdecode_core (s : ByteArray) (hs : s.size ≤ 1000000) (t1 t2 t3 t4 t5 : Tp) (x1 x2 x3 x5 : Nat) (a b c : Int) (k : ByteArray) (n : Nat) (hn : n ≤ 8) (hn0 : 8 < x5 ∨ x5 = n)
    (ht5 : t5.1.size ≤ 1000000) (hk : k.size ≤ 140737488351232)
    (N1 : Hid (RNumAt (s, 0) x1 t1)) (N2 : Hid (RNumAt t1 x2 t2)) (N3 : Hid (RNumAt t2 x3 t3))
    (T4 : Hid (∀ w, Calls Try.prog 47 #[tapeV t3.1 t3.2, .int .i64 16] w fun e w' => e = .returned (.tuple #[tapeV t4.1 t4.2, .string k]) ∧ Mod w w' []))
    (N5 : Hid (RNumAt t4 x5 t5)) (L1 : Hid (LimAt x1 549755813888 a)) (L2 : Hid (LimAt x2 549755813888 b)) (L3 : Hid (LimAt x3 549755813888 c)) (o : EvD) (er : Int)
    (hgood : Hid (x5 = n → endE (goT t5 n).2.1 (goT t5 n).2.2 = 0 → checkR a b c k (goT t5 n).1 = 0 → o = ⟨a, b, c, k, (goT t5 n).1⟩ ∧ er = 0))
    (hbad : Hid ((8 < x5 ∨ endE (goT t5 n).2.1 (goT t5 n).2.2 ≠ 0 ∨ checkR a b c k (goT t5 n).1 ≠ 0) → o = zeroD ∧ er = 3)) (w : World) :
    Calls Try.prog 25 #[.string s] w fun e w' => ∃ v, e = .returned (.tuple #[evV o.a o.b o.c o.k v, .int .i64 er]) ∧ Mod w w' [] ∧ FldsAt w' v o.l := by
  have HB0 := Lib.hid (Blk.new w #[.int .i64 0, .int .i64 0, .int .i64 0, .string ⟨#[]⟩, .slice none 0 0] 32)
  have HM0 := Lib.hid ((Mod.refl w []).alloc (.cells #[.int .i64 0, .int .i64 0, .int .i64 0, .string ⟨#[]⟩, .slice none 0 0] 32))
  have GO := Lib.hid (goT_ok t5 ht5)
  have HT5 := Lib.hid ht5
  have HN0 := Lib.hid hn0
  clear hn0
  unfold RNumAt at N1 N2 N3 N5
  unfold LimAt at L1 L2 L3
  obtain ⟨i0, hi, hz0, hz1, hz2⟩ := info_parts info_field
  go_enter Try.func25, Try.ntmps25
  go_wp2_with fail
  refine (N1.out _).mono ?_
  rintro e w1 ⟨rfl, hm1⟩
  have HM1 := Lib.hid (HM0.out.trans0 hm1)
  have HB1 := Lib.hid (HB0.out.mod hm1 (by simp))
  clear hm1
  go_wp2_with fail
  have HM2 := Lib.hid (HM1.out.alloc (.cells #[.string t1.1, .int .i64 t1.2] 80))
  have HB2 := Lib.hid (HB1.out.alloc (.cells #[.string t1.1, .int .i64 t1.2] 80))
  refine (N2.out _).mono ?_
  rintro e w2 ⟨rfl, hm2⟩
  have HM3 := Lib.hid (HM2.out.trans0 hm2)
  have HB3 := Lib.hid (HB2.out.mod hm2 (by simp))
  clear hm2
  go_wp2_with fail
  have HM4 := Lib.hid (HM3.out.alloc (.cells #[.string t2.1, .int .i64 t2.2] 80))
  have HB4 := Lib.hid (HB3.out.alloc (.cells #[.string t2.1, .int .i64 t2.2] 80))
  refine (N3.out _).mono ?_
  rintro e w3 ⟨rfl, hm3⟩
  have HM5 := Lib.hid (HM4.out.trans0 hm3)
  have HB5 := Lib.hid (HB4.out.mod hm3 (by simp))
  clear hm3
  go_wp2_with fail
  have HM6 := Lib.hid (HM5.out.alloc (.cells #[.string t3.1, .int .i64 t3.2] 80))
  have HB6 := Lib.hid (HB5.out.alloc (.cells #[.string t3.1, .int .i64 t3.2] 80))
  refine (T4.out _).mono ?_
  rintro e w4 ⟨rfl, hm4⟩
  have HM7 := Lib.hid (HM6.out.trans0 hm4)
  have HB7 := Lib.hid (HB6.out.mod hm4 (by simp))
  clear hm4 HM0 HM1 HM2 HM3 HM4 HM5 HM6 HB0 HB1 HB2 HB3 HB4 HB5 HB6
  go_wp2_with fail
  have HM8 := Lib.hid (HM7.out.alloc (.cells #[.string t4.1, .int .i64 t4.2] 80))
  have HB8 := Lib.hid (HB7.out.alloc (.cells #[.string t4.1, .int .i64 t4.2] 80))
  have HT8 := Lib.hid (Blk.new w4 #[.string t4.1, .int .i64 t4.2] 80)
  have HS8 : Hid (w.heap.size < w4.heap.size) := Lib.hid HB7.out.lt
  have HS9 : Hid (w4.heap.size < (w4.alloc (.cells #[.string t4.1, .int .i64 t4.2] 80)).heap.size) := Lib.hid HT8.out.lt
  generalize w4.alloc _ = W8 at HM8 HB8 HT8 HS9 ⊢
  have HWB := Lib.hid HM7.out.size
  generalize w4.heap.size = B at *
  refine (N5.out _).mono ?_
  rintro e w5 ⟨rfl, hm5⟩
  have HM9 := Lib.hid (HM8.out.trans0 hm5)
  have HB9 := Lib.hid (HB8.out.mod hm5 (by simp))
  have HT9 := Lib.hid (HT8.out.mod hm5 (by simp))
  clear hm5 HM7 HB7 HM8 HB8 HT8
  obtain ⟨c0, c1, f0, f1⟩ := Blk2 HT9.out
  have hlB : B < w5.heap.size := HT9.out.lt
  clear N1 N2 N3 T4 N5
  go_wp2_with fail
  refine (L1.out _).mono ?_
  rintro e wq1 ⟨rfl, rfl⟩
  go_wp2_with fail
  refine (L2.out _).mono ?_
  rintro e wq2 ⟨rfl, rfl⟩
  go_wp2_with fail
  refine (L3.out _).mono ?_
  rintro e wq3 ⟨rfl, rfl⟩
  have HTA := Lib.hid (show Blk (((w5.setCell ⟨B, 0, none⟩ (.string t5.1)).setCell ⟨B, 1, none⟩ (.int .i64 t5.2)).alloc (.cells #[.string t5.1, .int .i64 t5.2] 80)) B #[.string t5.1, .int .i64 t5.2] 80 from ((HT9.out.set 0 _).set 1 _).alloc _)
  have HBA := Lib.hid (show Blk (((w5.setCell ⟨B, 0, none⟩ (.string t5.1)).setCell ⟨B, 1, none⟩ (.int .i64 t5.2)).alloc (.cells #[.string t5.1, .int .i64 t5.2] 80)) w.heap.size _ _ from ((HB9.out.far (p := ⟨B, 0, none⟩) (by have := HS8.out; simp; omega) _).far (p := ⟨B, 1, none⟩) (by have := HS8.out; simp; omega) _).alloc _)
  have HMA := Lib.hid (show Mod w (((w5.setCell ⟨B, 0, none⟩ (.string t5.1)).setCell ⟨B, 1, none⟩ (.int .i64 t5.2)).alloc (.cells #[.string t5.1, .int .i64 t5.2] 80)) [] from ((HM9.out.setCell (.inr HWB.out) _).setCell (.inr HWB.out) _).alloc _)
  generalize ((w5.setCell ⟨B, 0, none⟩ (.string t5.1)).setCell ⟨B, 1, none⟩ (.int .i64 t5.2)).alloc (.cells #[.string t5.1, .int .i64 t5.2] 80) = X at HTA HBA HMA ⊢
  clear c0 c1 f0 f1 hlB HT9 HB9 HM9
  have HLB : Hid (B < X.heap.size) := Lib.hid HTA.out.lt
  rcases HN0.out with hx | hx
  · obtain ⟨ho, he⟩ := hbad.out (.inl hx)
    have hx' : (8 : Int) < x5 := by omega
    subst ho he
    obtain ⟨r0, r1, r2, r3, r4⟩ := Blk5 HBA.out
    have f0 := HBA.out.free 0
    have f1 := HBA.out.free 1
    have f2 := HBA.out.free 2
    have f3 := HBA.out.free 3
    have f4 := HBA.out.free 4
    have hl0 := HBA.out.lt
    go_wp2_with fail
    refine bodyPost_ret (v := .tuple #[evV 0 0 0 ⟨#[]⟩ (.slice none 0 0), .int .i64 3]) (by simp [results, Try.results25, go_sem, r0, r1, r2, r3, r4, f0, f1, f2, f3, f4, hl0]) rfl ⟨_, rfl, ?_, .inl ⟨rfl, none, 0, rfl⟩⟩
    repeat' (first | (with_reducible exact HMA.out) | (with_reducible refine Mod.setCell ?_ (.inr (by dsimp only; omega)) _) | (with_reducible refine Mod.alloc ?_ _))
  · subst hx
    have hx' : (x5 : Int) ≤ 8 := by omega
    have hw5 : IntKind.i64.wrap (x5 : Int) = x5 := IntWalk.i64_in _ (by omega)
    have HE6 := Lib.hid (Blk.new X #[.int .i64 a, .int .i64 b, .int .i64 c, .string k, .slice none 0 0] 32)
    have HT6 := Lib.hid (HTA.out.alloc (.cells #[.int .i64 a, .int .i64 b, .int .i64 c, .string k, .slice none 0 0] 32))
    have HB6 := Lib.hid (HBA.out.alloc (.cells #[.int .i64 a, .int .i64 b, .int .i64 c, .string k, .slice none 0 0] 32))
    have HM6 := Lib.hid (HMA.out.alloc (.cells #[.int .i64 a, .int .i64 b, .int .i64 c, .string k, .slice none 0 0] 32))
    clear HTA HBA HMA
    go_wp2_with fail
    generalize X.alloc _ = W6 at HE6 HT6 HB6 HM6 ⊢
    generalize X.heap.size = G at *
    have HSZ : Hid (G < W6.heap.size) := Lib.hid HE6.out.lt
    go_loopw [15] (fun vi wr => ∃ (i : Nat) (v : Value), i ≤ x5 ∧ vi = .int .i64 (i : Int) ∧ SW W6 B G wr.heap.size #[.int .i64 a, .int .i64 b, .int .i64 c, .string k, v] v i (flatF (goT t5 i).1) (goT t5 i).2 wr) (fun vi _ => x5 + 1 - (intOf vi).toNat)
    case atStart => exact ⟨0, .slice none 0 0, by omega, rfl, Mod.refl _ _, HT6.out, HE6.out, ⟨rfl, .inl ⟨rfl, rfl⟩⟩, Nat.le_refl _, ⟨HLB.out, HSZ.out, Nat.le_refl _⟩, fun k hk => by cases hk⟩
    case round =>
      obtain ⟨i, v, hile, rfl, hsw⟩ := hrel
      have HSW := Lib.hid hsw
      clear hsw
      by_cases hlt : i < x5
      · have hlt' : (i : Int) < x5 := by omega
        have hi0 : (0 : Int) ≤ (i : Int) := by omega
        have hz1 := goT_size t5 i
        have hz2 := tpT_size (goT t5 i).2 16
        have hz3 := tpN_size (tpT (goT t5 i).2 16)
        have hz5 := HT5.out
        have TX := Lib.hid (fun w => rTextT (goT t5 i).2 16 (by omega) (by omega) w)
        have N8 := Lib.hid (fun w => rNumT (tpT (goT t5 i).2 16) (by omega) w)
        have L8 := Lib.hid (fun w => limited_calls (tN (tpT (goT t5 i).2 16).1 (tpT (goT t5 i).2 16).2) 3 (by decide) w)
        have C1 := Lib.hid (fun w => rIntT (tpN (tpT (goT t5 i).2 16)) (by omega) w)
        have C2 := Lib.hid (fun w => rRealT (tpN (tpT (goT t5 i).2 16)) (by omega) w)
        have C3 := Lib.hid (fun w => rTextT (tpN (tpT (goT t5 i).2 16)) 64 (by omega) (by omega) w)
        have HT2 : Hid ((goT t5 (i + 1)).2 = (valT (tpT (goT t5 i).2 16)).2) := Lib.hid rfl
        have HT1 : Hid (flatF (goT t5 (i + 1)).1 = flatF (goT t5 i).1 ++ fldC ⟨(textR (goT t5 i).2.1 (goT t5 i).2.2 16).1, (valT (tpT (goT t5 i).2 16)).1⟩) := Lib.hid (by
          show flatF ((goT t5 i).1 ++ _) = _
          rw [flatF_snoc]; rfl)
        have HV : Hid (valT (tpT (goT t5 i).2 16) = if limI (tN (tpT (goT t5 i).2 16).1 (tpT (goT t5 i).2 16).2) 3 = 1 then (⟨1, unfoldI (tN (tpN (tpT (goT t5 i).2 16)).1 (tpN (tpT (goT t5 i).2 16)).2), 0, ⟨#[]⟩⟩, tpN (tpN (tpT (goT t5 i).2 16)))
          else if limI (tN (tpT (goT t5 i).2 16).1 (tpT (goT t5 i).2 16).2) 3 = 2 then (⟨2, 0, (realR (tpN (tpT (goT t5 i).2 16)).1 (tpN (tpT (goT t5 i).2 16)).2).1, ⟨#[]⟩⟩, tpR (tpN (tpT (goT t5 i).2 16)))
          else if limI (tN (tpT (goT t5 i).2 16).1 (tpT (goT t5 i).2 16).2) 3 = 3 then (⟨3, 0, 0, (textR (tpN (tpT (goT t5 i).2 16)).1 (tpN (tpT (goT t5 i).2 16)).2 64).1⟩, tpT (tpN (tpT (goT t5 i).2 16)) 64)
          else (⟨limI (tN (tpT (goT t5 i).2 16).1 (tpT (goT t5 i).2 16).2) 3, 0, 0, ⟨#[]⟩⟩, tpN (tpT (goT t5 i).2 16))) := Lib.hid rfl
        have hbd := limI_bd (tN (tpT (goT t5 i).2 16).1 (tpT (goT t5 i).2 16).2) 3
        clear hz1 hz2 hz3 hz5
        generalize valT (tpT (goT t5 i).2 16) = VT at *
        generalize (textR (goT t5 i).2.1 (goT t5 i).2.2 16).1 = nm at *
        generalize flatF (goT t5 i).1 = F at *
        generalize (goT t5 i).2 = tp0 at *
        generalize tpT tp0 16 = tp1 at *
        generalize limI (tN tp1.1 tp1.2) 3 = kd at *
        generalize tN tp1.1 tp1.2 = kn at *
        generalize hI : unfoldI (tN (tpN tp1).1 (tpN tp1).2) = yI at *
        generalize hR : (realR (tpN tp1).1 (tpN tp1).2).1 = yR at *
        generalize hX : (textR (tpN tp1).1 (tpN tp1).2 64).1 = yX at *
        generalize tpN (tpN tp1) = pI at *
        generalize tpR (tpN tp1) = pR at *
        generalize tpT (tpN tp1) 64 = pX at *
        generalize tpN tp1 = tp2 at *
        clear hI hR hX
        have hBw : B < wr.heap.size := HSW.out.t.lt
        obtain ⟨c0, c1, f0, f1⟩ := Blk2 HSW.out.t
        go_wp2_with fail
        refine (TX.out _).mono ?_
        rintro e w7 ⟨rfl, hm7⟩
        have HSW7 := Lib.hid (HSW.out.mod hm7)
        clear hm7 c0 c1 f0 f1
        go_wp2_with fail
        refine (N8.out _).mono ?_
        rintro e w8 ⟨rfl, hm8⟩
        have HSW8 := Lib.hid ((HSW7.out.alloc (.cells #[.string tp1.1, .int .i64 tp1.2] 80)).mod hm8)
        clear hm8 HSW7
        obtain ⟨c0, c1, f0, f1⟩ := Blk2 HSW8.out.t
        have hB8 : B < w8.heap.size := HSW8.out.t.lt
        go_wp2_with fail
        refine (L8.out _).mono ?_
        rintro e w9 ⟨rfl, rfl⟩
        have HSW9 := Lib.hid (show SW W6 B G wr.heap.size #[.int .i64 a, .int .i64 b, .int .i64 c, .string k, v] v i F tp2 (((w8.setCell ⟨B, 0, none⟩ (.string tp2.1)).setCell ⟨B, 1, none⟩ (.int .i64 tp2.2)).alloc (.cells #[.string tp2.1, .int .i64 tp2.2] 80)) from (HSW8.out.tape tp2.1 tp2.2).alloc _)
        generalize ((w8.setCell ⟨B, 0, none⟩ (.string tp2.1)).setCell ⟨B, 1, none⟩ (.int .i64 tp2.2)).alloc (.cells #[.string tp2.1, .int .i64 tp2.2] 80) = W9 at HSW9 ⊢
        clear c0 c1 f0 f1 hB8 hBw HSW8 TX N8 L8
        obtain ⟨c0, c1, f0, f1⟩ := Blk2 HSW9.out.t
        have hB9 : B < W9.heap.size := HSW9.out.t.lt
        have HNV : Hid (wr.heap.size ≤ W9.heap.size) := Lib.hid HSW9.out.n
        rcases (by omega : kd = 1 ∨ kd = 2 ∨ kd = 3 ∨ (kd ≠ 1 ∧ kd ≠ 2 ∧ kd ≠ 3)) with rfl | rfl | rfl | ⟨hk1, hk2, hk3⟩
        · have HV1 : Hid (VT = (⟨1, yI, 0, ⟨#[]⟩⟩, pI)) := Lib.hid (by rw [HV.out]; rfl)
          go_wp2_with fail
          refine (C1.out _).mono ?_
          rintro e w10 ⟨rfl, hm10⟩
          have HSW10 := Lib.hid ((HSW9.out.alloc (.cells #[.int .i64 1, .int .i64 0, .float .f64 0, .string ⟨#[]⟩] 45)).mod hm10)
          have HV10 := Lib.hid ((Blk.new W9 #[.int .i64 1, .int .i64 0, .float .f64 0, .string ⟨#[]⟩] 45).mod hm10 (by simp))
          clear hm10 c0 c1 f0 f1
          obtain ⟨c0, c1, f0, f1⟩ := Blk2 HSW10.out.t
          obtain ⟨⟨v0, v1, v2, v3⟩, g0, g1, g2, g3⟩ := Blk4g HV10.out
          have hB10 : B < w10.heap.size := HSW10.out.t.lt
          have hV10 : W9.heap.size < w10.heap.size := HV10.out.lt
          have hne1 : W9.heap.size ≠ B := by omega
          have x4 : w10.cell? ⟨G, 4, none⟩ = some v := HSW10.out.g.cell 4
          have hG10 : G < w10.heap.size := HSW10.out.g.lt
          have hne2 : G ≠ B := by have := HSW10.out.lt; omega
          have hne3 : G ≠ W9.heap.size := by have := HSW10.out.lt; have := HNV.out; omega
          generalize W9.heap.size = V at *
          go_wp2_with (at_builtin; refine hold ?_)
          refine Lib.hid ?_
          refine gen_wpl (fun W => ∃ Wz : World, W = Wz.alloc (.cells (fldC ⟨nm, ⟨1, yI, 0, ⟨#[]⟩⟩⟩).toArray 64) ∧ Wz.heap.size = w10.heap.size + 1 ∧ SW W6 B G wr.heap.size #[.int .i64 a, .int .i64 b, .int .i64 c, .string k, v] v i F pI Wz) ⟨_, rfl, by simp, ((HSW10.out.tape _ _).far HNV.out _).alloc _⟩ ?_
          rintro _ ⟨Wz, rfl, hze, hz⟩
          refine wpList_append_own _ rfl _ _ 30 rfl W6.heap.size 64 i0 _ 5 56 Try.underlying30 hi hz0 hz1 hz2 rfl (by decide) v i F rfl (hz.o.alloc _) ⟨w10.heap.size + 1, 0, none⟩ 1 1 (fldC ⟨nm, ⟨1, yI, 0, ⟨#[]⟩⟩⟩) rfl rfl (by rw [← hze]; exact World.news_of_block (cs := (fldC ⟨nm, ⟨1, yI, 0, ⟨#[]⟩⟩⟩).toArray) (t := 64) (fr := (0, 0)) (heap_alloc_new Wz _)) (by simp [Value.oneCell']) (by unfold maxLen; omega) (by omega) (by have := hz.m.size; simp; omega) ?_
          intro v' w12 hown12 hgrow hnil
          clear hnil
          obtain ⟨va, vn, vc, rfl⟩ := own_slice hown12
          have hlts := hz.lt
          have hne : ∀ g, g < W6.heap.size → some g ≠ v.ownBlock := (fun g hg h => by have := hz.b _ h.symm; omega)
          have HG12 := Lib.hid ((hz.g.alloc (.cells (fldC ⟨nm, ⟨1, yI, 0, ⟨#[]⟩⟩⟩).toArray 64)).grown hgrow (hne _ (by omega)))
          have HT12 := Lib.hid ((hz.t.alloc (.cells (fldC ⟨nm, ⟨1, yI, 0, ⟨#[]⟩⟩⟩).toArray 64)).grown hgrow (hne _ (by omega)))
          have HM12 := Lib.hid ((hz.m.alloc (.cells (fldC ⟨nm, ⟨1, yI, 0, ⟨#[]⟩⟩⟩).toArray 64)).grown hgrow (fun k hk => .inr (hz.b _ hk).1))
          have x42 : w12.cell? ⟨G, 4, none⟩ = some v := HG12.out.cell 4
          have xf2 : w12.frozen? ⟨G, 4, none⟩ = false := HG12.out.free 4
          clear hz hgrow hne
          go_wp2_with fail
          go_roundw
          case rel =>
            have hms := (Mod.refl w12 [G]).setCell (p := ⟨G, 4, none⟩) (.inl (by simp)) (.slice va vn vc)
            have hq : ∀ q, (Value.slice va vn vc).ownBlock = some q → W6.heap.size ≤ q ∧ q < w12.heap.size := fun q hq => by
              refine ⟨?_, own_lt hown12 q hq⟩
              exact own_ge hown12 q hq
            refine ⟨i + 1, .slice va vn vc, by omega, by go_num, ?_⟩
            rw [HT1.out, HT2.out, HV1.out]
            exact ⟨HM12.out.setCell (.inl (by simp)) _, HT12.out.far (by dsimp only; omega) _, HG12.out.set 4 _, own_mod hown12 hms (fun q h => by have := hq q h; simp; omega), Nat.le_refl _, ⟨hlts.1, hlts.2.1, by have := HM12.out.size; have := hms.size; omega⟩, fun q h => ⟨(hq q h).1, Nat.lt_of_lt_of_le (hq q h).2 hms.size⟩⟩
          case measure => simp [intOf]; omega
        · have HV1 : Hid (VT = (⟨2, 0, yR, ⟨#[]⟩⟩, pR)) := Lib.hid (by rw [HV.out]; rfl)
          go_wp2_with fail
          refine (C2.out _).mono ?_
          rintro e w10 ⟨rfl, hm10⟩
          have HSW10 := Lib.hid ((HSW9.out.alloc (.cells #[.int .i64 2, .int .i64 0, .float .f64 0, .string ⟨#[]⟩] 45)).mod hm10)
          have HV10 := Lib.hid ((Blk.new W9 #[.int .i64 2, .int .i64 0, .float .f64 0, .string ⟨#[]⟩] 45).mod hm10 (by simp))
          clear hm10 c0 c1 f0 f1
          obtain ⟨c0, c1, f0, f1⟩ := Blk2 HSW10.out.t
          obtain ⟨⟨v0, v1, v2, v3⟩, g0, g1, g2, g3⟩ := Blk4g HV10.out
          have hB10 : B < w10.heap.size := HSW10.out.t.lt
          have hV10 : W9.heap.size < w10.heap.size := HV10.out.lt
          have hne1 : W9.heap.size ≠ B := by omega
          have x4 : w10.cell? ⟨G, 4, none⟩ = some v := HSW10.out.g.cell 4
          have hG10 : G < w10.heap.size := HSW10.out.g.lt
          have hne2 : G ≠ B := by have := HSW10.out.lt; omega
          have hne3 : G ≠ W9.heap.size := by have := HSW10.out.lt; have := HNV.out; omega
          generalize W9.heap.size = V at *
          go_wp2_with (at_builtin; refine hold ?_)
          refine Lib.hid ?_
          refine gen_wpl (fun W => ∃ Wz : World, W = Wz.alloc (.cells (fldC ⟨nm, ⟨2, 0, yR, ⟨#[]⟩⟩⟩).toArray 64) ∧ Wz.heap.size = w10.heap.size + 1 ∧ SW W6 B G wr.heap.size #[.int .i64 a, .int .i64 b, .int .i64 c, .string k, v] v i F pR Wz) ⟨_, rfl, by simp, ((HSW10.out.tape _ _).far HNV.out _).alloc _⟩ ?_
          rintro _ ⟨Wz, rfl, hze, hz⟩
          refine wpList_append_own _ rfl _ _ 30 rfl W6.heap.size 64 i0 _ 5 56 Try.underlying30 hi hz0 hz1 hz2 rfl (by decide) v i F rfl (hz.o.alloc _) ⟨w10.heap.size + 1, 0, none⟩ 1 1 (fldC ⟨nm, ⟨2, 0, yR, ⟨#[]⟩⟩⟩) rfl rfl (by rw [← hze]; exact World.news_of_block (cs := (fldC ⟨nm, ⟨2, 0, yR, ⟨#[]⟩⟩⟩).toArray) (t := 64) (fr := (0, 0)) (heap_alloc_new Wz _)) (by simp [Value.oneCell']) (by unfold maxLen; omega) (by omega) (by have := hz.m.size; simp; omega) ?_
          intro v' w12 hown12 hgrow hnil
          clear hnil
          obtain ⟨va, vn, vc, rfl⟩ := own_slice hown12
          have hlts := hz.lt
          have hne : ∀ g, g < W6.heap.size → some g ≠ v.ownBlock := (fun g hg h => by have := hz.b _ h.symm; omega)
          have HG12 := Lib.hid ((hz.g.alloc (.cells (fldC ⟨nm, ⟨2, 0, yR, ⟨#[]⟩⟩⟩).toArray 64)).grown hgrow (hne _ (by omega)))
          have HT12 := Lib.hid ((hz.t.alloc (.cells (fldC ⟨nm, ⟨2, 0, yR, ⟨#[]⟩⟩⟩).toArray 64)).grown hgrow (hne _ (by omega)))
          have HM12 := Lib.hid ((hz.m.alloc (.cells (fldC ⟨nm, ⟨2, 0, yR, ⟨#[]⟩⟩⟩).toArray 64)).grown hgrow (fun k hk => .inr (hz.b _ hk).1))
          have x42 : w12.cell? ⟨G, 4, none⟩ = some v := HG12.out.cell 4
          have xf2 : w12.frozen? ⟨G, 4, none⟩ = false := HG12.out.free 4
          clear hz hgrow hne
          go_wp2_with fail
          go_roundw
          case rel =>
            have hms := (Mod.refl w12 [G]).setCell (p := ⟨G, 4, none⟩) (.inl (by simp)) (.slice va vn vc)
            have hq : ∀ q, (Value.slice va vn vc).ownBlock = some q → W6.heap.size ≤ q ∧ q < w12.heap.size := fun q hq => by
              refine ⟨?_, own_lt hown12 q hq⟩
              exact own_ge hown12 q hq
            refine ⟨i + 1, .slice va vn vc, by omega, by go_num, ?_⟩
            rw [HT1.out, HT2.out, HV1.out]
            exact ⟨HM12.out.setCell (.inl (by simp)) _, HT12.out.far (by dsimp only; omega) _, HG12.out.set 4 _, own_mod hown12 hms (fun q h => by have := hq q h; simp; omega), Nat.le_refl _, ⟨hlts.1, hlts.2.1, by have := HM12.out.size; have := hms.size; omega⟩, fun q h => ⟨(hq q h).1, Nat.lt_of_lt_of_le (hq q h).2 hms.size⟩⟩
          case measure => simp [intOf]; omega
        · have HV1 : Hid (VT = (⟨3, 0, 0, yX⟩, pX)) := Lib.hid (by rw [HV.out]; rfl)
          go_wp2_with fail
          refine (C3.out _).mono ?_
          rintro e w10 ⟨rfl, hm10⟩
          have HSW10 := Lib.hid ((HSW9.out.alloc (.cells #[.int .i64 3, .int .i64 0, .float .f64 0, .string ⟨#[]⟩] 45)).mod hm10)
          have HV10 := Lib.hid ((Blk.new W9 #[.int .i64 3, .int .i64 0, .float .f64 0, .string ⟨#[]⟩] 45).mod hm10 (by simp))
          clear hm10 c0 c1 f0 f1
          obtain ⟨c0, c1, f0, f1⟩ := Blk2 HSW10.out.t
          obtain ⟨⟨v0, v1, v2, v3⟩, g0, g1, g2, g3⟩ := Blk4g HV10.out
          have hB10 : B < w10.heap.size := HSW10.out.t.lt
          have hV10 : W9.heap.size < w10.heap.size := HV10.out.lt
          have hne1 : W9.heap.size ≠ B := by omega
          have x4 : w10.cell? ⟨G, 4, none⟩ = some v := HSW10.out.g.cell 4
          have hG10 : G < w10.heap.size := HSW10.out.g.lt
          have hne2 : G ≠ B := by have := HSW10.out.lt; omega
          have hne3 : G ≠ W9.heap.size := by have := HSW10.out.lt; have := HNV.out; omega
          generalize W9.heap.size = V at *
          go_wp2_with (at_builtin; refine hold ?_)
          refine Lib.hid ?_
          refine gen_wpl (fun W => ∃ Wz : World, W = Wz.alloc (.cells (fldC ⟨nm, ⟨3, 0, 0, yX⟩⟩).toArray 64) ∧ Wz.heap.size = w10.heap.size + 1 ∧ SW W6 B G wr.heap.size #[.int .i64 a, .int .i64 b, .int .i64 c, .string k, v] v i F pX Wz) ⟨_, rfl, by simp, ((HSW10.out.tape _ _).far HNV.out _).alloc _⟩ ?_
          rintro _ ⟨Wz, rfl, hze, hz⟩
          refine wpList_append_own _ rfl _ _ 30 rfl W6.heap.size 64 i0 _ 5 56 Try.underlying30 hi hz0 hz1 hz2 rfl (by decide) v i F rfl (hz.o.alloc _) ⟨w10.heap.size + 1, 0, none⟩ 1 1 (fldC ⟨nm, ⟨3, 0, 0, yX⟩⟩) rfl rfl (by rw [← hze]; exact World.news_of_block (cs := (fldC ⟨nm, ⟨3, 0, 0, yX⟩⟩).toArray) (t := 64) (fr := (0, 0)) (heap_alloc_new Wz _)) (by simp [Value.oneCell']) (by unfold maxLen; omega) (by omega) (by have := hz.m.size; simp; omega) ?_
          intro v' w12 hown12 hgrow hnil
          clear hnil
          obtain ⟨va, vn, vc, rfl⟩ := own_slice hown12
          have hlts := hz.lt
          have hne : ∀ g, g < W6.heap.size → some g ≠ v.ownBlock := (fun g hg h => by have := hz.b _ h.symm; omega)
          have HG12 := Lib.hid ((hz.g.alloc (.cells (fldC ⟨nm, ⟨3, 0, 0, yX⟩⟩).toArray 64)).grown hgrow (hne _ (by omega)))
          have HT12 := Lib.hid ((hz.t.alloc (.cells (fldC ⟨nm, ⟨3, 0, 0, yX⟩⟩).toArray 64)).grown hgrow (hne _ (by omega)))
          have HM12 := Lib.hid ((hz.m.alloc (.cells (fldC ⟨nm, ⟨3, 0, 0, yX⟩⟩).toArray 64)).grown hgrow (fun k hk => .inr (hz.b _ hk).1))
          have x42 : w12.cell? ⟨G, 4, none⟩ = some v := HG12.out.cell 4
          have xf2 : w12.frozen? ⟨G, 4, none⟩ = false := HG12.out.free 4
          clear hz hgrow hne
          go_wp2_with fail
          go_roundw
          case rel =>
            have hms := (Mod.refl w12 [G]).setCell (p := ⟨G, 4, none⟩) (.inl (by simp)) (.slice va vn vc)
            have hq : ∀ q, (Value.slice va vn vc).ownBlock = some q → W6.heap.size ≤ q ∧ q < w12.heap.size := fun q hq => by
              refine ⟨?_, own_lt hown12 q hq⟩
              exact own_ge hown12 q hq
            refine ⟨i + 1, .slice va vn vc, by omega, by go_num, ?_⟩
            rw [HT1.out, HT2.out, HV1.out]
            exact ⟨HM12.out.setCell (.inl (by simp)) _, HT12.out.far (by dsimp only; omega) _, HG12.out.set 4 _, own_mod hown12 hms (fun q h => by have := hq q h; simp; omega), Nat.le_refl _, ⟨hlts.1, hlts.2.1, by have := HM12.out.size; have := hms.size; omega⟩, fun q h => ⟨(hq q h).1, Nat.lt_of_lt_of_le (hq q h).2 hms.size⟩⟩
          case measure => simp [intOf]; omega
        · have HV1 : Hid (VT = (⟨kd, 0, 0, ⟨#[]⟩⟩, tp2)) := Lib.hid (by rw [HV.out, if_neg hk1, if_neg hk2, if_neg hk3])
          have e1 : (kd == 1) = false := by rw [beq_eq_false_iff_ne]; exact hk1
          have e2 : (kd == 2) = false := by rw [beq_eq_false_iff_ne]; exact hk2
          have e3 : (kd == 3) = false := by rw [beq_eq_false_iff_ne]; exact hk3
          clear hk1 hk2 hk3
          have x4 : W9.cell? ⟨G, 4, none⟩ = some v := HSW9.out.g.cell 4
          have hG9 : G < W9.heap.size := HSW9.out.g.lt
          go_wp2_with (at_builtin; refine hold ?_)
          refine Lib.hid ?_
          refine gen_wpl (fun W => ∃ Wz : World, W = Wz.alloc (.cells (fldC ⟨nm, ⟨kd, 0, 0, ⟨#[]⟩⟩⟩).toArray 64) ∧ Wz.heap.size = W9.heap.size + 1 ∧ SW W6 B G wr.heap.size #[.int .i64 a, .int .i64 b, .int .i64 c, .string k, v] v i F tp2 Wz) ⟨_, rfl, by simp, HSW9.out.alloc _⟩ ?_
          rintro _ ⟨Wz, rfl, hze, hz⟩
          refine wpList_append_own _ rfl _ _ 30 rfl W6.heap.size 64 i0 _ 5 56 Try.underlying30 hi hz0 hz1 hz2 rfl (by decide) v i F rfl (hz.o.alloc _) ⟨W9.heap.size + 1, 0, none⟩ 1 1 (fldC ⟨nm, ⟨kd, 0, 0, ⟨#[]⟩⟩⟩) rfl rfl (by rw [← hze]; exact World.news_of_block (cs := (fldC ⟨nm, ⟨kd, 0, 0, ⟨#[]⟩⟩⟩).toArray) (t := 64) (fr := (0, 0)) (heap_alloc_new Wz _)) (by simp [Value.oneCell']) (by unfold maxLen; omega) (by omega) (by have := hz.m.size; simp; omega) ?_
          intro v' w12 hown12 hgrow hnil
          clear hnil
          obtain ⟨va, vn, vc, rfl⟩ := own_slice hown12
          have hlts := hz.lt
          have hne : ∀ g, g < W6.heap.size → some g ≠ v.ownBlock := (fun g hg h => by have := hz.b _ h.symm; omega)
          have HG12 := Lib.hid ((hz.g.alloc (.cells (fldC ⟨nm, ⟨kd, 0, 0, ⟨#[]⟩⟩⟩).toArray 64)).grown hgrow (hne _ (by omega)))
          have HT12 := Lib.hid ((hz.t.alloc (.cells (fldC ⟨nm, ⟨kd, 0, 0, ⟨#[]⟩⟩⟩).toArray 64)).grown hgrow (hne _ (by omega)))
          have HM12 := Lib.hid ((hz.m.alloc (.cells (fldC ⟨nm, ⟨kd, 0, 0, ⟨#[]⟩⟩⟩).toArray 64)).grown hgrow (fun k hk => .inr (hz.b _ hk).1))
          have x42 : w12.cell? ⟨G, 4, none⟩ = some v := HG12.out.cell 4
          have xf2 : w12.frozen? ⟨G, 4, none⟩ = false := HG12.out.free 4
          clear hz hgrow hne
          go_wp2_with fail
          go_roundw
          case rel =>
            have hms := (Mod.refl w12 [G]).setCell (p := ⟨G, 4, none⟩) (.inl (by simp)) (.slice va vn vc)
            have hq : ∀ q, (Value.slice va vn vc).ownBlock = some q → W6.heap.size ≤ q ∧ q < w12.heap.size := fun q hq => by
              refine ⟨?_, own_lt hown12 q hq⟩
              exact own_ge hown12 q hq
            refine ⟨i + 1, .slice va vn vc, by omega, by go_num, ?_⟩
            rw [HT1.out, HT2.out, HV1.out]
            exact ⟨HM12.out.setCell (.inl (by simp)) _, HT12.out.far (by dsimp only; omega) _, HG12.out.set 4 _, own_mod hown12 hms (fun q h => by have := hq q h; simp; omega), Nat.le_refl _, ⟨hlts.1, hlts.2.1, by have := HM12.out.size; have := hms.size; omega⟩, fun q h => ⟨(hq q h).1, Nat.lt_of_lt_of_le (hq q h).2 hms.size⟩⟩
          case measure => simp [intOf]; omega
      · obtain rfl : i = x5 := by omega
        have hnl : ¬ ((i : Int) < (i : Int)) := by omega
        obtain ⟨va, vn, vc, rfl⟩ := own_slice HSW.out.o
        have HF0 := Lib.hid (show FldsAt wr (.slice va vn vc) (goT t5 i).1 from flds_of_own (by rw [goT_len]; exact HSW.out.o))
        have HMX := Lib.hid (HM6.out.trans HSW.out.m (by have := HSW.out.lt; have := HWB.out; simp; omega))
        have HBX0 := Lib.hid (HB6.out.mod HSW.out.m (by have := HS8.out; have := HSW.out.lt; simp; omega))
        have EC := Lib.hid (fun w => rEnd_calls (goT t5 i).2.1 (goT t5 i).2.2 w)
        have CC := Lib.hid (fun w hf => refcheck_calls a b c k hk (.slice va vn vc) (goT t5 i).1 (GO.out i) (by rw [goT_len]; omega) w hf)
        obtain ⟨c0, c1, -, -⟩ := Blk2 HSW.out.t
        have hBw : B < wr.heap.size := HSW.out.t.lt
        generalize endE (goT t5 i).2.1 (goT t5 i).2.2 = ee at *
        generalize checkR a b c k (goT t5 i).1 = ck at *
        have hmz : ∀ {wz : World}, Mod w wz [] → ∀ u0 u1 u2 u3 u4, Mod w (((((wz.setCell ⟨w.heap.size, 0, none⟩ u0).setCell ⟨w.heap.size, 1, none⟩ u1).setCell ⟨w.heap.size, 2, none⟩ u2).setCell ⟨w.heap.size, 3, none⟩ u3).setCell ⟨w.heap.size, 4, none⟩ u4) [] := fun m u0 u1 u2 u3 u4 =>
          ((((m.setCell (.inr (Nat.le_refl _)) _).setCell (.inr (Nat.le_refl _)) _).setCell (.inr (Nat.le_refl _)) _).setCell (.inr (Nat.le_refl _)) _).setCell (.inr (Nat.le_refl _)) _
        by_cases he0 : ee = 0
        · by_cases hc0 : ck = 0
          · obtain ⟨ho, he⟩ := hgood.out (by trivial) he0 hc0
            subst ho he he0 hc0
            go_wp2_with fail
            refine (EC.out _).mono ?_
            rintro e w10 ⟨rfl, hm10⟩
            obtain ⟨y0, y1, y2, y3, y4⟩ := Blk5 (HSW.out.g.mod hm10 (by simp))
            have HFA := Lib.hid (HF0.out.mod hm10)
            clear c0 c1
            go_wp2_with fail
            refine (CC.out _ HFA.out).mono ?_
            rintro e w11 ⟨rfl, hm11⟩
            have HMY := Lib.hid ((HMX.out.trans0 hm10).trans0 hm11)
            clear y0 y1 y2 y3 y4
            obtain ⟨y0, y1, y2, y3, y4⟩ := Blk5 ((HSW.out.g.mod hm10 (by simp)).mod hm11 (by simp))
            have hb11 := (HBX0.out.mod hm10 (by simp)).mod hm11 (by simp)
            obtain ⟨r0, r1, r2, r3, r4⟩ := Blk5 hb11
            have f0 := hb11.free 0
            have f1 := hb11.free 1
            have f2 := hb11.free 2
            have f3 := hb11.free 3
            have f4 := hb11.free 4
            have hl0 := hb11.lt
            have HO1 := Lib.hid (own_mod (own_mod HSW.out.o hm10 (by simp)) hm11 (by simp))
            have HLW : Hid (w.heap.size < W6.heap.size) := Lib.hid HB6.out.lt
            clear hm11 hm10 hb11
            go_wp2_with fail
            refine bodyPost_ret (v := .tuple #[evV a b c k (.slice va vn vc), .int .i64 0]) (by simp [results, Try.results25, go_sem, r0, r1, r2, r3, r4, f0, f1, f2, f3, f4, hl0]) rfl ⟨_, rfl, hmz HMY.out _ _ _ _ _, ?_⟩
            exact flds_of_own (by rw [goT_len]; exact own_mod HO1.out ((((((Mod.refl w11 [w.heap.size]).setCell (by simp) _).setCell (by simp) _).setCell (by simp) _).setCell (by simp) _).setCell (by simp) _) (fun q hq => by have := HSW.out.b q hq; have := HLW.out; simp; omega))
          · obtain ⟨ho, he⟩ := hbad.out (.inr (.inr hc0))
            have hcn : (ck != 0) = true := by rw [bne_iff_ne]; exact hc0
            subst ho he he0
            clear hc0
            go_wp2_with fail
            refine (EC.out _).mono ?_
            rintro e w10 ⟨rfl, hm10⟩
            obtain ⟨y0, y1, y2, y3, y4⟩ := Blk5 (HSW.out.g.mod hm10 (by simp))
            have HFA := Lib.hid (HF0.out.mod hm10)
            clear c0 c1
            go_wp2_with fail
            refine (CC.out _ HFA.out).mono ?_
            rintro e w11 ⟨rfl, hm11⟩
            have HMY := Lib.hid ((HMX.out.trans0 hm10).trans0 hm11)
            have hb11 := (HBX0.out.mod hm10 (by simp)).mod hm11 (by simp)
            clear y0 y1 y2 y3 y4
            obtain ⟨r0, r1, r2, r3, r4⟩ := Blk5 hb11
            have f0 := hb11.free 0
            have f1 := hb11.free 1
            have f2 := hb11.free 2
            have f3 := hb11.free 3
            have f4 := hb11.free 4
            have hl0 := hb11.lt
            clear hm11 hm10 hb11
            go_wp2_with fail
            refine bodyPost_ret (v := .tuple #[evV 0 0 0 ⟨#[]⟩ (.slice none 0 0), .int .i64 3]) (by simp [results, Try.results25, go_sem, r0, r1, r2, r3, r4, f0, f1, f2, f3, f4, hl0]) rfl ⟨_, rfl, hmz HMY.out _ _ _ _ _, .inl ⟨rfl, none, 0, rfl⟩⟩
        · obtain ⟨ho, he⟩ := hbad.out (.inr (.inl he0))
          have hen : (ee != 0) = true := by rw [bne_iff_ne]; exact he0
          subst ho he
          clear he0
          · go_wp2_with fail
            refine (EC.out _).mono ?_
            rintro e w10 ⟨rfl, hm10⟩
            have HMY := Lib.hid (HMX.out.trans0 hm10)
            have hb11 := HBX0.out.mod hm10 (by simp)
            clear c0 c1
            obtain ⟨r0, r1, r2, r3, r4⟩ := Blk5 hb11
            have f0 := hb11.free 0
            have f1 := hb11.free 1
            have f2 := hb11.free 2
            have f3 := hb11.free 3
            have f4 := hb11.free 4
            have hl0 := hb11.lt
            clear hm10 hb11
            go_wp2_with fail
            refine bodyPost_ret (v := .tuple #[evV 0 0 0 ⟨#[]⟩ (.slice none 0 0), .int .i64 3]) (by simp [results, Try.results25, go_sem, r0, r1, r2, r3, r4, f0, f1, f2, f3, f4, hl0]) rfl ⟨_, rfl, hmz HMY.out _ _ _ _ _, .inl ⟨rfl, none, 0, rfl⟩⟩

theorem rdecode_calls (s : ByteArray) (hs : s.size ≤ 1000000) (w : World) :
    Calls Try.prog 25 #[.string s] w fun e w' => ∃ v, e = .returned (.tuple #[evV (outD s).a (outD s).b (outD s).c (outD s).k v, .int .i64 (errD s)]) ∧ Mod w w' [] ∧ FldsAt w' v (outD s).l := by
  have h1 := tpN_size (s, 0)
  have h2 := tpN_size (tpN (s, 0))
  have h3 := tD_size s
  have h4 := tpT_size (tD s) 16
  have h5 := tpN_size (tpT (tD s) 16)
  have h6 := textR_size (tD s) 16
  have hb := limI_bd (nD s) 8
  have hnn : nD s ≤ 8 → (limI (nD s) 8).toNat = nD s := fun h => by unfold limI; rw [if_pos h]; rfl
  have hL : ∀ (n : Nat) (w : World), Calls Try.prog 48 #[.int .u64 n, .int .u64 549755813888] w fun e w' => e = .returned (.int .i64 (limI n 549755813888)) ∧ w = w' := fun n w => limited_calls n 549755813888 (by decide) w
  dsimp only at h1
  refine rdecode_core s hs (tpN (s, 0)) (tpN (tpN (s, 0))) (tD s) (tpT (tD s) 16) (tpN (tpT (tD s) 16)) (tN s 0) (tN (tpN (s, 0)).1 (tpN (s, 0)).2) (tN (tpN (tpN (s, 0))).1 (tpN (tpN (s, 0))).2) (nD s) (rawD s).a (rawD s).b (rawD s).c (rawD s).k (limI (nD s) 8).toNat (by omega) (by by_cases h : nD s ≤ 8; exact .inr (hnn h).symm; exact .inl (by omega)) (by omega) (by show (textR (tD s).1 (tD s).2 16).1.size ≤ _; omega)
    (Lib.hid (fun w => rNumT (s, 0) hs w)) (Lib.hid (fun w => rNumT (tpN (s, 0)) (by omega) w)) (Lib.hid (fun w => rNumT (tpN (tpN (s, 0))) (by omega) w))
    (Lib.hid (fun w => rTextT (tD s) 16 (by omega) (by omega) w)) (Lib.hid (fun w => rNumT (tpT (tD s) 16) (by omega) w)) (Lib.hid (hL _)) (Lib.hid (hL _)) (Lib.hid (hL _)) (outD s) (errD s) (Lib.hid fun a b c => ?_) (Lib.hid fun h => ?_) w
  · have hn : nD s ≤ 8 := by
      omega
    have hc : checkB (rawD s).a (rawD s).b (rawD s).c (rawD s).k (rawD s).l = true := by
      cases hx : checkB (rawD s).a (rawD s).b (rawD s).c (rawD s).k (rawD s).l with
      | true => rfl
      | false => have := checkR_bad hx; rw [show checkR _ _ _ _ (rawD s).l = 0 from c] at this; cases this
    have : okD s = true := by
      unfold okD
      rw [hc, Bool.and_true, Bool.and_eq_true]
      exact ⟨decide_eq_true hn, decide_eq_true b⟩
    exact outD_good this
  · refine outD_bad ?_
    unfold okD
    rcases h with h | h | h
    · have : ¬ nD s ≤ 8 := by omega
      rw [decide_eq_false this]; rfl
    · rw [show decide (endE (gD s).2.1 (gD s).2.2 = 0) = false from decide_eq_false h, Bool.false_and, Bool.and_false]
    · have : checkB (rawD s).a (rawD s).b (rawD s).c (rawD s).k (rawD s).l = false := by
        cases hx : checkB (rawD s).a (rawD s).b (rawD s).c (rawD s).k (rawD s).l with
        | false => rfl
        | true => exact absurd (checkR_good hx) h
      rw [this, Bool.and_false, Bool.and_false]
end Go.Proofs.Ytdmipmkgoefidaa.Ev
