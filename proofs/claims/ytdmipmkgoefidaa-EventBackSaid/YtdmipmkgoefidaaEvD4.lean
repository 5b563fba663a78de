/- The contract of Decode. -/
import Derived.Test.YtdmipmkgoefidaaEvD3
import Derived.Deep.RegionHeld3
import Derived.Deep.AppendLies
import Derived.Deep.DrawnRows
namespace Go.Proofs.Ytdmipmkgoefidaa.Ev
open Go.RowKit Mem Bits EvH
set_option linter.unusedSimpArgs false
set_option linter.unusedVariables false
set_option maxRecDepth 100000
attribute [local go_sem ↓] Go.wp_at_zero Go.wp_at_succ
theorem numT (t : Tp) (most : Nat) (hm : most ≤ 549755813888) (ht : t.1.size ≤ 1000000) (g : Nat) (w : World) (hb : TapeAt w g t.1 t.2) :
    Calls Try.prog 42 #[.pointer (some ⟨g, 0, none⟩), .int .u64 most] w fun e w' => e = .returned (.int .i64 (limI (tN t.1 t.2) most)) ∧ Mod w w' [g] ∧ TapeAt w' g (tpN t).1 (tpN t).2 := number_calls g t.1 t.2 most hm w (by omega) hb
theorem textT (t : Tp) (most : Int) (hm : 0 ≤ most ∧ most ≤ 64) (ht : t.1.size ≤ 1000000) (g : Nat) (w : World) (hb : TapeAt w g t.1 t.2) :
    Calls Try.prog 43 #[.pointer (some ⟨g, 0, none⟩), .int .i64 most] w fun e w' => e = .returned (.string (textR t.1 t.2 most).1) ∧ Mod w w' [g] ∧ TapeAt w' g (tpT t most).1 (tpT t most).2 := Text_calls g t.1 t.2 most (by omega) (by omega) w (by omega) hb
theorem readT (t : Tp) (ht : t.1.size ≤ 1000000) (g : Nat) (w : World) (hb : TapeAt w g t.1 t.2) :
    Calls Try.prog 44 #[.pointer (some ⟨g, 0, none⟩)] w fun e w' => e = .returned (valA (valT t).1) ∧ Mod w w' [g] ∧ TapeAt w' g (valT t).2.1 (valT t).2.2 := read_calls g t.1 t.2 w (by omega) hb

def NumAt (s : Tp) (m : Nat) (x : Int) (t : Tp) : Prop := ∀ g w, TapeAt w g s.1 s.2 → Calls Try.prog 42 #[.pointer (some ⟨g, 0, none⟩), .int .u64 m] w fun e w' => e = .returned (.int .i64 x) ∧ Mod w w' [g] ∧ TapeAt w' g t.1 t.2

set_option maxHeartbeats 4000000 in
theorem decode_core (s : ByteArray) (hs : s.size ≤ 1000000) (t1 t2 t3 t4 t5 : Tp) (a b c : Int) (k : ByteArray) (n : Nat) (n0 : Int) (hn : n ≤ 8) (hn0 : n0 = -1 ∧ n = 0 ∨ n0 = n)
    (ht5 : t5.1.size ≤ 1000000) (hk : k.size ≤ 140737488351232)
    (N1 : Hid (NumAt (s, 0) 549755813888 a t1)) (N2 : Hid (NumAt t1 549755813888 b t2)) (N3 : Hid (NumAt t2 549755813888 c t3))
    (T4 : Hid (∀ g w, TapeAt w g t3.1 t3.2 → Calls Try.prog 43 #[.pointer (some ⟨g, 0, none⟩), .int .i64 16] w fun e w' => e = .returned (.string k) ∧ Mod w w' [g] ∧ TapeAt w' g t4.1 t4.2))
    (N5 : Hid (NumAt t4 8 n0 t5)) (o : EvD) (er : Int)
    (hgood : Hid (n0 = n → endE (goT t5 n).2.1 (goT t5 n).2.2 = 0 → checkR a b c k (goT t5 n).1 = 0 → o = ⟨a, b, c, k, (goT t5 n).1⟩ ∧ er = 0))
    (hbad : Hid ((n0 = -1 ∨ endE (goT t5 n).2.1 (goT t5 n).2.2 ≠ 0 ∨ checkR a b c k (goT t5 n).1 ≠ 0) → o = zeroD ∧ er = 3)) (w : World) :
    Calls Try.prog 24 #[.string s] w fun e w' => ∃ v, e = .returned (.tuple #[evV o.a o.b o.c o.k v, .int .i64 er]) ∧ Mod w w' [] ∧ FldsAt w' v o.l := by
  have HB0 := Lib.hid (Blk.new w #[.int .i64 0, .int .i64 0, .int .i64 0, .string ⟨#[]⟩, .slice none 0 0] 24)
  have HM0 := Lib.hid ((Mod.refl w []).alloc (.cells #[.int .i64 0, .int .i64 0, .int .i64 0, .string ⟨#[]⟩, .slice none 0 0] 24))
  have AT := Lib.hid (fun w => at_calls s w)
  have TX := Lib.hid (fun i g w hb => textT (goT t5 i).2 16 (by omega) (by have := goT_size t5 i; omega) g w hb)
  have RD := Lib.hid (fun i g w hb => readT (tpT (goT t5 i).2 16) (by have := goT_size t5 i; have := tpT_size (goT t5 i).2 16; omega) g w hb)
  have GO := Lib.hid (goT_ok t5 ht5)
  have HN0 := Lib.hid hn0
  clear hn0
  unfold NumAt at N1 N2 N3 N5
  obtain ⟨i0, hi, hz0, hz1, hz2⟩ : ∃ i0, Try.prog.info? 60 = some i0 ∧ i0.zero = some (.agg #[.string ⟨#[]⟩, .int .i64 0, .int .i64 0, .float .f64 0, .string ⟨#[]⟩]) ∧ i0.size = 5 ∧ i0.bytes = 56 := info_parts (by kernel_rfl)
  go_enter Try.func24, Try.ntmps24
  go_wp2_with fail
  refine (AT.out _).mono ?_
  rintro e w1 ⟨rfl, hm1, hb1⟩
  have HS0 : Hid ((w.alloc (.cells #[.int .i64 0, .int .i64 0, .int .i64 0, .string ⟨#[]⟩, .slice none 0 0] 24)).heap.size = w.heap.size + 1) := Lib.hid (by simp)
  generalize w.alloc _ = W at HB0 HM0 HS0 hm1 hb1 ⊢
  rw [HS0.out] at hb1 ⊢
  have HM1 := Lib.hid (HM0.out.trans0 hm1)
  have HB1 := Lib.hid (HB0.out.mod hm1 (by simp))
  clear hm1
  go_wp2_with fail
  refine (N1.out _ _ hb1).mono ?_
  rintro e w2 ⟨rfl, hm2, hb2⟩
  have HM2 := Lib.hid (HM1.out.trans hm2 (by simp))
  have HB2 := Lib.hid (HB1.out.mod hm2 (by simp))
  clear hm2 hb1 HM1 HB1 N1
  go_wp2_with fail
  refine (N2.out _ _ hb2).mono ?_
  rintro e w3 ⟨rfl, hm3, hb3⟩
  have HM3 := Lib.hid (HM2.out.trans hm3 (by simp))
  have HB3 := Lib.hid (HB2.out.mod hm3 (by simp))
  clear hm3 hb2 HM2 HB2 N2
  go_wp2_with fail
  refine (N3.out _ _ hb3).mono ?_
  rintro e w4 ⟨rfl, hm4, hb4⟩
  have HM4 := Lib.hid (HM3.out.trans hm4 (by simp))
  have HB4 := Lib.hid (HB3.out.mod hm4 (by simp))
  clear hm4 hb3 HM3 HB3 N3
  go_wp2_with fail
  refine (T4.out _ _ hb4).mono ?_
  rintro e w5 ⟨rfl, hm5, hb5⟩
  have HM5 := Lib.hid (HM4.out.trans hm5 (by simp))
  have HB5 := Lib.hid (HB4.out.mod hm5 (by simp))
  clear hm5 hb4 HM4 HB4 T4
  go_wp2_with fail
  have HE5 := Lib.hid (Blk.new w5 #[.int .i64 a, .int .i64 b, .int .i64 c, .string k, .slice none 0 0] 24)
  have HLT : Hid (w.heap.size + 1 < w5.heap.size) := Lib.hid (Blk.lt hb5)
  have hb5' : TapeAt (w5.alloc (.cells #[.int .i64 a, .int .i64 b, .int .i64 c, .string k, .slice none 0 0] 24)) (w.heap.size + 1) t4.1 t4.2 := Blk.alloc hb5 _
  have HB5' := Lib.hid (HB5.out.alloc (.cells #[.int .i64 a, .int .i64 b, .int .i64 c, .string k, .slice none 0 0] 24))
  have HM5' := Lib.hid (HM5.out.alloc (.cells #[.int .i64 a, .int .i64 b, .int .i64 c, .string k, .slice none 0 0] 24))
  clear HB5 HM5 hb5
  generalize w5.alloc _ = W5 at HE5 hb5' HB5' HM5' ⊢
  generalize w5.heap.size = G at *
  refine (N5.out _ _ hb5').mono ?_
  rintro e w6 ⟨rfl, hm6, hb6⟩
  have hGT : G ≠ w.heap.size + 1 := by have := HLT.out; omega
  have HSZ : Hid (G < w6.heap.size) := Lib.hid (by have := hm6.size; have := HE5.out.lt; omega)
  have HM6 := Lib.hid (HM5'.out.trans hm6 (by simp))
  have HB6 := Lib.hid (HB5'.out.mod hm6 (by simp))
  have HE6 := Lib.hid (HE5.out.mod hm6 (by simpa using hGT))
  have HT6 := Lib.hid hb6
  clear hm6 hb5' HM5' HB5' HE5 hb6 N5
  go_wp2_with fail
  go_loopw [21] (fun vi wr => ∃ (i : Nat) (v : Value), i ≤ n ∧ vi = .int .i64 (i : Int) ∧ Mod w6 wr [w.heap.size + 1, G] ∧ TapeAt wr (w.heap.size + 1) (goT t5 i).2.1 (goT t5 i).2.2 ∧ Blk wr G #[.int .i64 a, .int .i64 b, .int .i64 c, .string k, v] 24 ∧ wr.ownsRow w6.heap.size 60 5 v i (flatF (goT t5 i).1)) (fun vi _ => n + 1 - (intOf vi).toNat)
  case atStart => exact ⟨0, .slice none 0 0, by omega, rfl, Mod.refl _ _, HT6.out, HE6.out, rfl, .inl ⟨rfl, rfl⟩⟩
  case round =>
    obtain ⟨i, v, hile, rfl, hm, htp, hbx, hown⟩ := hrel
    have HM := Lib.hid hm
    have HBX := Lib.hid hbx
    have x4 : wr.cell? ⟨G, 4, none⟩ = some v := hbx.cell 4
    have xf : wr.frozen? ⟨G, 4, none⟩ = false := hbx.free 4
    have hgl : G < wr.heap.size := hbx.lt
    have HG := Lib.hid (own_ge hown)
    by_cases hlt : i < n
    · have hlt' : (i : Int) < n0 := by have := HN0.out; omega
      have hi0 : (0 : Int) ≤ (i : Int) := by omega
      have TX1 := Lib.hid (TX.out i (w.heap.size + 1))
      have RD1 := Lib.hid (RD.out i (w.heap.size + 1))
      have HT2 : Hid ((goT t5 (i + 1)).2 = (valT (tpT (goT t5 i).2 16)).2) := Lib.hid rfl
      have HT1 : Hid (flatF (goT t5 (i + 1)).1 = flatF (goT t5 i).1 ++ fldC ⟨(textR (goT t5 i).2.1 (goT t5 i).2.2 16).1, (valT (tpT (goT t5 i).2 16)).1⟩) := Lib.hid (by
        show flatF ((goT t5 i).1 ++ _) = _
        rw [flatF_snoc]; rfl)
      generalize valT (tpT (goT t5 i).2 16) = vt at *
      generalize (textR (goT t5 i).2.1 (goT t5 i).2.2 16).1 = nm at *
      generalize flatF (goT t5 i).1 = F at *
      clear hm hbx
      go_wp2_with fail
      refine He.wp_region_e 10 (fun w' => w'.cell? ⟨G, 4, none⟩ = some v) (by kernel_rfl) x4 (fun S0 => ?_)
      refine He.wpE_take (i := 0) (v := ?_) rfl (by kernel_rfl) (by kernel_rfl) (by kernel_rfl) (by kernel_rfl) (by kernel_rfl) (fun _ _ _ h => h) (by rfl) ?_ (by assumption) ?_
      rotate_left
      · (intro w' hSw; (try dsimp only at hSw); go_simp; first | done | with_reducible rfl)
      try simp only [List.getElem_toArray, List.getElem_cons_succ, List.getElem_cons_zero, Act.put, List.setIfInBounds_toArray, List.set_cons_zero, List.set_cons_succ]
      refine He.wpE_take (i := 1) (v := ?_) rfl (by kernel_rfl) (by kernel_rfl) (by kernel_rfl) (by kernel_rfl) (by kernel_rfl) (fun _ _ _ h => h) (by rfl) ?_ (by assumption) ?_
      rotate_left
      · (intro w' hSw; (try dsimp only at hSw); go_simp; first | done | with_reducible rfl)
      try simp only [List.getElem_toArray, List.getElem_cons_succ, List.getElem_cons_zero, Act.put, List.setIfInBounds_toArray, List.set_cons_zero, List.set_cons_succ]
      refine He.wpE_take (i := 2) (v := ?_) rfl (by kernel_rfl) (by kernel_rfl) (by kernel_rfl) (by kernel_rfl) (by kernel_rfl) (fun _ _ _ h => h) (by rfl) ?_ (by assumption) ?_
      rotate_left
      · (intro w' hSw; (try dsimp only at hSw); go_simp; first | done | with_reducible rfl)
      try simp only [List.getElem_toArray, List.getElem_cons_succ, List.getElem_cons_zero, Act.put, List.setIfInBounds_toArray, List.set_cons_zero, List.set_cons_succ]
      refine He.wpE_take (i := 4) (v := ?_) rfl (by kernel_rfl) (by kernel_rfl) (by kernel_rfl) (by kernel_rfl) (by kernel_rfl) (fun _ _ _ h => h) (by rfl) ?_ (by assumption) ?_
      rotate_left
      · (intro w' hSw; (try dsimp only at hSw); go_simp; first | done | with_reducible rfl)
      try simp only [List.getElem_toArray, List.getElem_cons_succ, List.getElem_cons_zero, Act.put, List.setIfInBounds_toArray, List.set_cons_zero, List.set_cons_succ]
      refine He.wpE_one (i := 3) (by kernel_rfl) rfl (by rfl) (fun K hK => ?_)
      go_simp
      refine (TX1.out _ (Blk.drew htp)).mono ?_
      rintro e w7 ⟨rfl, hm7, htp7⟩
      have HBX7 := Lib.hid (HBX.out.drew.mod hm7 (by simpa using hGT))
      have S7 : w7.cell? ⟨G, 4, none⟩ = some v := HBX7.out.cell 4
      have HM7 := Lib.hid (HM.out.drew.trans hm7 (by simp))
      have hown7 := own_mod hown.drew hm7 (fun q hq => by have := HG.out q hq; have := HLT.out; have := HSZ.out; simp; omega)
      refine hK.out _ _ (fun _ => S7) ?_
      clear hK K hm7
      try simp only [Act.put, List.setIfInBounds_toArray, List.set_cons_zero, List.set_cons_succ]
      refine He.wpE_one (i := 5) (by kernel_rfl) rfl (by rfl) (fun K hK => ?_)
      go_simp
      refine (RD1.out _ htp7).mono ?_
      rintro e w8 ⟨rfl, hm8, htp8⟩
      have HBX8 := Lib.hid (HBX7.out.mod hm8 (by simpa using hGT))
      have S8 : w8.cell? ⟨G, 4, none⟩ = some v := HBX8.out.cell 4
      have HM8 := Lib.hid (HM7.out.trans hm8 (by simp))
      have hown8 := own_mod hown7 hm8 (fun q hq => by have := HG.out q hq; have := HLT.out; have := HSZ.out; simp; omega)
      refine hK.out _ _ (fun _ => S8) ?_
      clear hK K hm8 hown7 HM7 HBX7 htp7
      try simp only [Act.put, List.setIfInBounds_toArray, List.set_cons_zero, List.set_cons_succ]
      have hG8 : G < w8.heap.size := HBX8.out.lt
      have hk1 : ∀ p u, w8.cell? p = some u → (w8.alloc (.cells (fldC ⟨nm, vt.1⟩).toArray 60)).cell? p = some u := fun p u h => keepC ((Mod.refl w8 []).alloc _) h
      refine He.wpE_take (i := 6) (v := ?_) rfl (by kernel_rfl) (by kernel_rfl) (by kernel_rfl) (by kernel_rfl) (by kernel_rfl) (fun _ _ _ h => h) (by rfl) ?_ (by assumption) ?_
      rotate_left
      · (intro w' hSw; (try dsimp only at hSw); go_simp; first | done | with_reducible rfl)
      try simp only [List.getElem_toArray, List.getElem_cons_succ, List.getElem_cons_zero, Act.put, List.setIfInBounds_toArray, List.set_cons_zero, List.set_cons_succ]
      refine He.wpE_one (i := 7) (by kernel_rfl) rfl (by rfl) (fun K hK => ?_)
      go_simp
      refine hK.out _ _ (fun _ => hk1 _ _ S8) ?_
      clear hK K
      try simp only [Act.put, List.setIfInBounds_toArray, List.set_cons_zero, List.set_cons_succ]
      refine He.wpE_one (i := 8) (by kernel_rfl) rfl (by rfl) (fun K hK => ?_)
      refine wp_append_lies _ _ _ _ (by rfl) w6.heap.size 60 i0 _ 5 56 Try.underlying22 hi hz0 hz1 hz2 rfl (by omega) v i F (by rfl) (hown8.alloc _)
            ⟨w8.heap.size, 0, none⟩ 1 1 (fldC ⟨nm, vt.1⟩) (by rfl) (by rfl) (World.news_of_block (cs := (fldC ⟨nm, vt.1⟩).toArray) (t := 60) (fr := (0, 0)) (heap_alloc_new w8 _)) (by simp [Value.oneCell'])
            (by omega) (by unfold maxLen; omega) (by omega) (by have := HM8.out.size; simp; omega) (w8.heap.size + 1) (by simp) ?_
      intro gg gcap w9 hown9 hgrow hat hlt2
      have hne : ∀ g, g < w6.heap.size → some g ≠ v.ownBlock := fun g hg h => by have := HG.out _ h.symm; omega
      have HBX9 := Lib.hid ((HBX8.out.alloc (.cells (fldC ⟨nm, vt.1⟩).toArray 60)).grown hgrow (hne _ HSZ.out))
      have HM9 := Lib.hid ((HM8.out.alloc (.cells (fldC ⟨nm, vt.1⟩).toArray 60)).grown hgrow (fun k hk => .inr (HG.out _ hk)))
      have htp9 := Lib.hid (show TapeAt w9 _ _ _ from (Blk.alloc htp8 (.cells (fldC ⟨nm, vt.1⟩).toArray 60)).grown hgrow (hne _ (by have := HLT.out; have := HSZ.out; omega)))
      have S9 : w9.cell? ⟨G, 4, none⟩ = some v := HBX9.out.cell 4
      refine hK.out _ _ (fun _ => S9) ?_
      clear hK K hk1
      have xf9 : w9.frozen? ⟨G, 4, none⟩ = false := HBX9.out.free 4
      try simp only [Act.put, List.setIfInBounds_toArray, List.set_cons_zero, List.set_cons_succ]
      refine He.wpE_take (i := 9) (v := ?_) rfl (by kernel_rfl) (by kernel_rfl) (by kernel_rfl) (by kernel_rfl) (by kernel_rfl) (fun _ _ _ h => h) (by rfl) ?_ (by assumption) ?_
      rotate_left
      · (intro w' hSw; (try dsimp only at hSw); go_simp; first | done | with_reducible rfl)
      try simp only [List.getElem_toArray, List.getElem_cons_succ, List.getElem_cons_zero, Act.put, List.setIfInBounds_toArray, List.set_cons_zero, List.set_cons_succ]
      refine He.wpE_one (i := 10) (by kernel_rfl) rfl (by rfl) (fun K hK => ?_)
      go_simp
      refine hK.out _ _ (fun h => absurd rfl h) ?_
      clear hK K
      refine He.wpE_done (by kernel_rfl) ?_
      try simp only [Act.put, List.setIfInBounds_toArray, List.set_cons_zero, List.set_cons_succ]
      go_wp2_with fail
      go_roundw
      case rel =>
        refine ⟨i + 1, _, by omega, by go_num, HM9.out.setCell (by simp) _, ?_, HBX9.out.set 4 _, ?_⟩
        · rw [HT2.out]
          exact Blk.far htp9.out (by have := HLT.out; simp; omega) _
        · rw [HT1.out]
          exact own_mod hown9 ((Mod.refl w9 [G]).setCell (by simp) _) (fun k hk => by simp [Value.ownBlock] at hk; subst hk; rcases hat with h | h <;> simp <;> first | (have := HG.out _ h; have := HSZ.out; omega) | (have := HSZ.out; omega))
      case measure => simp [intOf]; omega
    · obtain rfl : i = n := by omega
      have hnl : ¬ ((i : Int) < n0) := by have := HN0.out; omega
      obtain ⟨va, vn, vc, rfl⟩ := own_slice hown
      have hf0 : FldsAt wr (.slice va vn vc) (goT t5 i).1 := flds_of_own (by rw [goT_len]; exact hown)
      have HF0 := Lib.hid hf0
      have HO := Lib.hid hown
      have HMX := Lib.hid ((HM6.out.trans hm (by have := HLT.out; simp; omega)))
      have HBX0 := Lib.hid (HB6.out.mod hm (by have := HLT.out; simp; omega))
      have hne : G ≠ w.heap.size := by have := HLT.out; omega
      obtain ⟨y0, y1, y2, y3, y4⟩ := Blk5 HBX.out
      obtain ⟨r0, r1, r2, r3, r4⟩ := Blk5 HBX0.out
      have f0 := HBX0.out.free 0
      have f1 := HBX0.out.free 1
      have f2 := HBX0.out.free 2
      have f3 := HBX0.out.free 3
      have f4 := HBX0.out.free 4
      have hl0 : w.heap.size < wr.heap.size := HBX0.out.lt
      have EC := Lib.hid (End_calls (w.heap.size + 1) (goT t5 i).2.1 (goT t5 i).2.2 wr htp)
      have CC := Lib.hid (check_calls a b c k hk (.slice va vn vc) (goT t5 i).1 (GO.out i) (by rw [goT_len]; omega) wr HF0.out)
      generalize endE (goT t5 i).2.1 (goT t5 i).2.2 = ee at *
      generalize checkR a b c k (goT t5 i).1 = ck at *
      clear TX RD hown hf0 hm htp hbx HE6 HT6 HB6
      have hmz : ∀ {wz : World}, Mod w wz [] → ∀ u0 u1 u2 u3 u4, Mod w (((((wz.setCell ⟨w.heap.size, 0, none⟩ u0).setCell ⟨w.heap.size, 1, none⟩ u1).setCell ⟨w.heap.size, 2, none⟩ u2).setCell ⟨w.heap.size, 3, none⟩ u3).setCell ⟨w.heap.size, 4, none⟩ u4) [] := fun m u0 u1 u2 u3 u4 =>
        ((((m.setCell (.inr (Nat.le_refl _)) _).setCell (.inr (Nat.le_refl _)) _).setCell (.inr (Nat.le_refl _)) _).setCell (.inr (Nat.le_refl _)) _).setCell (.inr (Nat.le_refl _)) _
      rcases HN0.out with ⟨rfl, hi0⟩ | hn1
      · obtain ⟨ho, he⟩ := hbad.out (.inl rfl)
        subst ho he
        go_wp2_with fail
        refine bodyPost_ret (v := .tuple #[evV 0 0 0 ⟨#[]⟩ (.slice none 0 0), .int .i64 3]) (by simp [results, Try.results24, go_sem, r0, r1, r2, r3, r4, f0, f1, f2, f3, f4, hl0]) rfl ⟨_, rfl, hmz HMX.out _ _ _ _ _, .inl ⟨rfl, none, 0, rfl⟩⟩
      · subst hn1
        have hnn : decide ((i : Int) < 0) = false := by simp
        have hn0' : (0 : Int) ≤ i := by omega
        by_cases he0 : ee = 0
        · by_cases hc0 : ck = 0
          · obtain ⟨ho, he⟩ := hgood.out rfl he0 hc0
            subst ho he he0 hc0
            go_wp2_with fail
            refine EC.out.mono ?_
            rintro e w10 ⟨rfl, rfl⟩
            go_wp2_with fail
            refine CC.out.mono ?_
            rintro e w11 ⟨rfl, hm11⟩
            have HMY := Lib.hid (HMX.out.trans0 hm11)
            obtain ⟨y0, y1, y2, y3, y4⟩ := Blk5 (HBX.out.mod hm11 (by simp))
            have hb11 := HBX0.out.mod hm11 (by simp)
            obtain ⟨r0, r1, r2, r3, r4⟩ := Blk5 hb11
            have f0 := hb11.free 0
            have f1 := hb11.free 1
            have f2 := hb11.free 2
            have f3 := hb11.free 3
            have f4 := hb11.free 4
            have HO1 := Lib.hid (own_mod HO.out hm11 (by simp))
            clear hm11 hb11
            go_wp2_with fail
            refine bodyPost_ret (v := .tuple #[evV a b c k (.slice va vn vc), .int .i64 0]) (by simp [results, Try.results24, go_sem, r0, r1, r2, r3, r4, f0, f1, f2, f3, f4, hl0]) rfl ⟨_, rfl, hmz HMY.out _ _ _ _ _, ?_⟩
            exact flds_of_own (by rw [goT_len]; exact own_mod HO1.out ((((((Mod.refl w11 [w.heap.size]).setCell (by simp) _).setCell (by simp) _).setCell (by simp) _).setCell (by simp) _).setCell (by simp) _) (fun q hq => by have := HG.out q hq; have := HSZ.out; have := HLT.out; simp; omega))
          · obtain ⟨ho, he⟩ := hbad.out (.inr (.inr hc0))
            have hcn : (ck != 0) = true := by rw [bne_iff_ne]; exact hc0
            subst ho he he0
            clear hc0
            go_wp2_with fail
            refine EC.out.mono ?_
            rintro e w10 ⟨rfl, rfl⟩
            go_wp2_with fail
            refine CC.out.mono ?_
            rintro e w11 ⟨rfl, hm11⟩
            have HMY := Lib.hid (HMX.out.trans0 hm11)
            have hb11 := HBX0.out.mod hm11 (by simp)
            obtain ⟨r0, r1, r2, r3, r4⟩ := Blk5 hb11
            have f0 := hb11.free 0
            have f1 := hb11.free 1
            have f2 := hb11.free 2
            have f3 := hb11.free 3
            have f4 := hb11.free 4
            clear hm11 hb11
            go_wp2_with fail
            refine bodyPost_ret (v := .tuple #[evV 0 0 0 ⟨#[]⟩ (.slice none 0 0), .int .i64 3]) (by simp [results, Try.results24, go_sem, r0, r1, r2, r3, r4, f0, f1, f2, f3, f4, hl0]) rfl ⟨_, rfl, hmz HMY.out _ _ _ _ _, .inl ⟨rfl, none, 0, rfl⟩⟩
        · obtain ⟨ho, he⟩ := hbad.out (.inr (.inl he0))
          have hen : (ee != 0) = true := by rw [bne_iff_ne]; exact he0
          subst ho he
          clear he0
          go_wp2_with fail
          refine EC.out.mono ?_
          rintro e w10 ⟨rfl, rfl⟩
          go_wp2_with fail
          refine bodyPost_ret (v := .tuple #[evV 0 0 0 ⟨#[]⟩ (.slice none 0 0), .int .i64 3]) (by simp [results, Try.results24, go_sem, r0, r1, r2, r3, r4, f0, f1, f2, f3, f4, hl0]) rfl ⟨_, rfl, hmz HMX.out _ _ _ _ _, .inl ⟨rfl, none, 0, rfl⟩⟩

theorem decode_calls (s : ByteArray) (hs : s.size ≤ 1000000) (w : World) :
    Calls Try.prog 24 #[.string s] w fun e w' => ∃ v, e = .returned (.tuple #[evV (outD s).a (outD s).b (outD s).c (outD s).k v, .int .i64 (errD s)]) ∧ Mod w w' [] ∧ FldsAt w' v (outD s).l := by
  have h1 := tpN_size (s, 0)
  have h2 := tpN_size (tpN (s, 0))
  have h3 := tD_size s
  have h4 := tpT_size (tD s) 16
  have h5 := tpN_size (tpT (tD s) 16)
  have h6 := textR_size (tD s) 16
  have hb := limI_bd (nD s) 8
  dsimp only at h1
  refine decode_core s hs (tpN (s, 0)) (tpN (tpN (s, 0))) (tD s) (tpT (tD s) 16) (tpN (tpT (tD s) 16)) (rawD s).a (rawD s).b (rawD s).c (rawD s).k (limI (nD s) 8).toNat (limI (nD s) 8) (by omega) (by omega) (by omega) (by show (textR (tD s).1 (tD s).2 16).1.size ≤ _; omega)
    (Lib.hid (fun g w hb => numT (s, 0) 549755813888 (by decide) hs g w hb)) (Lib.hid (fun g w hb => numT (tpN (s, 0)) 549755813888 (by decide) (by omega) g w hb)) (Lib.hid (fun g w hb => numT (tpN (tpN (s, 0))) 549755813888 (by decide) (by omega) g w hb))
    (Lib.hid (fun g w hb => textT (tD s) 16 (by omega) (by omega) g w hb)) (Lib.hid (fun g w hb => numT (tpT (tD s) 16) 8 (by decide) (by omega) g w hb)) (outD s) (errD s) (Lib.hid fun a b c => ?_) (Lib.hid fun h => ?_) w
  · have hn : nD s ≤ 8 := by
      unfold limI at a
      split at a
      · assumption
      · omega
    have hc : checkB (rawD s).a (rawD s).b (rawD s).c (rawD s).k (rawD s).l = true := by
      cases hx : checkB (rawD s).a (rawD s).b (rawD s).c (rawD s).k (rawD s).l with
      | true => rfl
      | false => have := checkR_bad hx; rw [show checkR _ _ _ _ (rawD s).l = 0 from c] at this; cases this
    have : okD s = true := by
      unfold okD
      rw [hc, Bool.and_true, Bool.and_eq_true]
      exact ⟨decide_eq_true hn, decide_eq_true b⟩
    exact outD_good this
  · refine outD_bad ?_
    unfold okD
    rcases h with h | h | h
    · have : ¬ nD s ≤ 8 := by
        intro hn
        unfold limI at h
        rw [if_pos hn] at h
        omega
      rw [decide_eq_false this]; rfl
    · rw [show decide (endE (gD s).2.1 (gD s).2.2 = 0) = false from decide_eq_false h, Bool.false_and, Bool.and_false]
    · have : checkB (rawD s).a (rawD s).b (rawD s).c (rawD s).k (rawD s).l = false := by
        cases hx : checkB (rawD s).a (rawD s).b (rawD s).c (rawD s).k (rawD s).l with
        | false => rfl
        | true => exact absurd (checkR_good hx) h
      rw [this, Bool.and_false, Bool.and_false]
end Go.Proofs.Ytdmipmkgoefidaa.Ev
