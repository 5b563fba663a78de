/- Books: from hands over the matches. -/
import Derived.Test.YtceocpohdckkoaaBx6
import Derived.Test.YtceocpohdckkoaaRg
import Derived.Test.YtceocpohdckkoaaHi
namespace Go.Proofs.Ytceocpohdckkoaa.Bx
open Go.RowKit Mem
set_option linter.unusedSimpArgs false
set_option linter.unusedVariables false
set_option maxRecDepth 100000

abbrev El := Value × List Int
abbrev enc (x : El) : Value := .agg #[x.1]
abbrev ptr (g : Nat) : Value := .pointer (some ⟨g, 0, none⟩)

theorem from_calls (w : World) (g : Nat) (n : Int) :
    Calls Try.prog 45 #[ptr g, .int .i64 n] w fun e w' => e = .returned (.func (.func 69) #[] #[ptr (w.heap.size + 1), ptr w.heap.size]) ∧ w' = (w.alloc (.cells #[ptr g] 23)).alloc (.cells #[.int .i64 n] 3) := by
  go_enter Try.func45, Try.ntmps45
  go_wp2
  go_ret
  exact ⟨rfl, rfl⟩

/-- What an iterator over a book reads, lies in memory. -/
structure Src (D N g : Nat) (base : Int) (rows : List (List Int)) (B0 B1 : Nat) (n : Int) (A : World) : Prop where
  size : D ≤ A.heap.size
  book : BookAt A N (fun _ => False) g base rows
  b0 : Blk A B0 #[ptr g] 23
  b1 : Blk A B1 #[.int .i64 n] 3

set_option maxHeartbeats 4000000 in
theorem from_hands {D N g : Nat} {base : Int} {rows : List (List Int)} {B0 B1 : Nat} {n : Int} {K : World → Prop} (hK : ∀ A, K A → Src D N g base rows B0 B1 n A)
    (hb0 : 0 ≤ base) (hb1 : base ≤ 549755813888) (hl : rows.length ≤ 64) (hn : base ≤ n) (hn1 : n ≤ 9223372036854775807) (hr16 : ∀ r ∈ rows, r.length ≤ 16) (W : World) :
    Rg.Hands Try.prog 69 #[ptr B1, ptr B0] enc (fun x A => Fresh D A x.1 x.2 ∧ x.2 ∈ rows) K (fun xs => xs.map (·.2) = rows.drop (n - base).toNat) (fun pre => ∃ k, pre.map (·.2) = (rows.drop (n - base).toNat).take k) rows.length W := by
  intro l J Jx hJ hJK hY h0
  obtain ⟨d, hd⟩ : ∃ d : Nat, n - base = (d : Int) := ⟨(n - base).toNat, by omega⟩
  rw [hd, Int.toNat_natCast]
  have HD := Lib.hid hd
  have HK := Lib.hid hK
  have HJ := Lib.hid hJ
  have HJK := Lib.hid hJK
  have HY := Lib.hid hY
  have H0 := Lib.hid h0
  have HR16 := Lib.hid hr16
  have b1 := (hK _ (hJK _ _ h0)).b1.cell 0
  have hlr : (rows.length : Int) ≤ 64 := by omega
  clear hd hK hJ hJK hY h0 hr16
  refine callsIn_wide.2 ?_
  show Calls Try.prog 69 #[.func (.yield l) #[] #[], ptr B1, ptr B0] W _
  go_enter Try.func69, Try.ntmps69
  go_wp2_with fail
  go_loopw [4] (fun vi wr => ∃ (k : Nat) (pre : List El), vi = .int .i64 (n + k) ∧ pre.length = k ∧ pre.map (·.2) = (rows.drop d).take k ∧ k ≤ rows.length - d ∧ J pre wr) (fun vi _ => (base + rows.length + 1 - intOf vi).toNat)
  case atStart => exact ⟨0, [], by simp, rfl, by simp, Nat.zero_le _, H0.out⟩
  case round =>
    obtain ⟨k, pre, rfl, hpl, hpre, hk, hJw⟩ := hrel
    have HJw := Lib.hid hJw
    have HPL := Lib.hid hpl
    have HPRE := Lib.hid hpre
    have s := HK.out _ (HJK.out _ _ hJw)
    have EC := Lib.hid (end_calls s.book (by omega) hb1 (by omega))
    have e0 := s.b0.cell 0
    clear s hJw hpl hpre H0 b1
    by_cases hlt : d + k < rows.length
    · have hlt' : n + (k : Int) < base + rows.length := by have := HD.out; omega
      go_wp2_with fail
      (with_reducible refine EC.out.mono ?_)
      rintro e w1 ⟨rfl, hm1⟩
      have HJ1 := Lib.hid (HJ.out _ _ _ HJw.out hm1)
      have s1 := HK.out _ (HJK.out _ _ HJ1.out)
      have HS1 := Lib.hid s1
      obtain ⟨hNg, v, us, hb, hla, hrows⟩ := s1.book
      have hlen := all2_len hrows
      obtain ⟨b, off, cap, rfl, hcap, hNb, hbb, hc⟩ := hla.cells (fun e => by rw [e] at hlen; simp at hlen; omega)
      have hdk : d + k < us.length := by omega
      have hrow := all2_get hrows (d + k) hdk hlt
      have c3 := hc (d + k) hdk
      have c0 := s1.b0.cell 0
      have c1 := hb.cell 0
      have c2 := hb.cell 1
      have hi0 : n + (k : Int) - base = ((d + k : Nat) : Int) := by have := HD.out; omega
      have hi1 : ((d + k : Nat) : Int) < us.length := by omega
      have hi2 : (us.length : Int) ≤ cap := by omega
      have HR := Lib.hid hrow
      obtain ⟨rb, rcap, hu, -, hrne, -⟩ := hrow
      have HRN := Lib.hid hrne
      have HNB := Lib.hid (show pre.length < rows.length by rw [HPL.out]; omega)
      rw [hu] at c3 HR
      have HRL := Lib.hid (HR16.out _ (List.getElem_mem hlt))
      have HMEM := Lib.hid (List.getElem_mem hlt)
      have HROW := Lib.hid (show (rows.drop d).take (k + 1) = (rows.drop d).take k ++ [rows[d + k]'hlt] by
        rw [List.take_succ_eq_append_getElem (by rw [List.length_drop]; omega), List.getElem_drop])
      obtain ⟨row, hrw⟩ : ∃ row, (rows[d + k]'hlt) = row := ⟨_, rfl⟩
      rw [hrw] at c3 HR HRN HRL HROW HMEM
      have CC := Lib.hid (fun w' (m : Kept w1 w') => clone_calls row (slV rb row.length rcap) w' (HR.out.ints.kept m) (by have := HRL.out; omega) HRN.out)
      clear hb hla hrows hc hbb hNb hcap hlen hm1 hrne hrw hu s1 EC e0
      obtain ⟨m, hmm⟩ : ∃ m, d + k = m := ⟨_, rfl⟩
      rw [hmm] at hlt hdk c3 hi0 hi1
      have HMM := Lib.hid hmm
      clear hmm
      have hm64 : (m : Int) ≤ 64 := by omega
      have hm0 : (0 : Int) ≤ m := by omega
      have hwm : IntKind.i64.wrap (m : Int) = (m : Int) := IntWalk.i64_in _ (by omega)
      generalize us.length = un at *
      go_wp2_with fail
      refine Hi.wp_region_e 8 [16, 17] (fun w' => w'.cell? ⟨B0, 0, none⟩ = some (ptr g) ∧ w'.cell? ⟨g, 0, none⟩ = some (iv base) ∧ w'.cell? ⟨g, 1, none⟩ = some (.slice (some ⟨b, off, none⟩) un cap) ∧ w'.cell? ⟨b, off + m, none⟩ = some (slV rb row.length rcap)) (by kernel_rfl) ⟨c0, c1, c2, c3⟩ (fun S0 => ?_)
      clear c0 c1 c2 c3
      have HMd := Lib.hid ((Mod.refl w1 []).drew)
      have HJd := Lib.hid (HJ.out _ _ _ HJ1.out HMd.out)
      generalize w1.drew = wd at *
      refine Hi.wpE_take (i := 0) (v := ?_) rfl (by kernel_rfl) (by kernel_rfl) (by kernel_rfl) (by simp) (by kernel_rfl) (by kernel_rfl) (fun _ _ _ h => h) (by rfl) ?_ (by assumption) ?_
      rotate_left
      · (intro w' hSw; (try dsimp only at hSw); go_simp; first | done | with_reducible rfl)
      try simp only [List.getElem_toArray, List.getElem_cons_succ, List.getElem_cons_zero, Act.put, List.setIfInBounds_toArray, List.set_cons_zero, List.set_cons_succ]
      refine Hi.wpE_take (i := 1) (v := ?_) rfl (by kernel_rfl) (by kernel_rfl) (by kernel_rfl) (by simp) (by kernel_rfl) (by kernel_rfl) (fun _ _ _ h => h) (by rfl) ?_ (by assumption) ?_
      rotate_left
      · (intro w' hSw; (try dsimp only at hSw); go_simp; first | done | with_reducible rfl)
      try simp only [List.getElem_toArray, List.getElem_cons_succ, List.getElem_cons_zero, Act.put, List.setIfInBounds_toArray, List.set_cons_zero, List.set_cons_succ]
      refine Hi.wpE_take (i := 2) (v := ?_) rfl (by kernel_rfl) (by kernel_rfl) (by kernel_rfl) (by simp) (by kernel_rfl) (by kernel_rfl) (fun _ _ _ h => h) (by rfl) ?_ (by assumption) ?_
      rotate_left
      · (intro w' hSw; (try dsimp only at hSw); go_simp; first | done | with_reducible rfl)
      try simp only [List.getElem_toArray, List.getElem_cons_succ, List.getElem_cons_zero, Act.put, List.setIfInBounds_toArray, List.set_cons_zero, List.set_cons_succ]
      refine Hi.wpE_take (i := 3) (v := ?_) rfl (by kernel_rfl) (by kernel_rfl) (by kernel_rfl) (by simp) (by kernel_rfl) (by kernel_rfl) (fun _ _ _ h => h) (by rfl) ?_ (by assumption) ?_
      rotate_left
      · (intro w' hSw; (try dsimp only at hSw); go_simp; first | done | with_reducible rfl)
      try simp only [List.getElem_toArray, List.getElem_cons_succ, List.getElem_cons_zero, Act.put, List.setIfInBounds_toArray, List.set_cons_zero, List.set_cons_succ]
      refine Hi.wpE_take (i := 4) (v := ?_) rfl (by kernel_rfl) (by kernel_rfl) (by kernel_rfl) (by simp) (by kernel_rfl) (by kernel_rfl) (fun _ _ _ h => h) (by rfl) ?_ (by assumption) ?_
      rotate_left
      · (intro w' hSw; (try dsimp only at hSw); go_simp; first | done | with_reducible rfl)
      try simp only [List.getElem_toArray, List.getElem_cons_succ, List.getElem_cons_zero, Act.put, List.setIfInBounds_toArray, List.set_cons_zero, List.set_cons_succ]
      refine Hi.wpE_take (i := 5) (v := ?_) rfl (by kernel_rfl) (by kernel_rfl) (by kernel_rfl) (by simp) (by kernel_rfl) (by kernel_rfl) (fun _ _ _ h => h) (by rfl) ?_ (by assumption) ?_
      rotate_left
      · (intro w' hSw; (try dsimp only at hSw); go_simp; first | done | with_reducible rfl)
      try simp only [List.getElem_toArray, List.getElem_cons_succ, List.getElem_cons_zero, Act.put, List.setIfInBounds_toArray, List.set_cons_zero, List.set_cons_succ]
      refine Hi.wpE_take (i := 6) (v := ?_) rfl (by kernel_rfl) (by kernel_rfl) (by kernel_rfl) (by simp) (by kernel_rfl) (by kernel_rfl) (fun _ _ _ h => h) (by rfl) ?_ (by assumption) ?_
      rotate_left
      · (intro w' hSw; (try dsimp only at hSw); go_simp; first | done | with_reducible rfl)
      try simp only [List.getElem_toArray, List.getElem_cons_succ, List.getElem_cons_zero, Act.put, List.setIfInBounds_toArray, List.set_cons_zero, List.set_cons_succ]
      refine Hi.wpE_take (i := 7) (v := ?_) rfl (by kernel_rfl) (by kernel_rfl) (by kernel_rfl) (by simp) (by kernel_rfl) (by kernel_rfl) (fun _ _ _ h => h) (by rfl) ?_ (by assumption) ?_
      rotate_left
      · (intro w' hSw; (try dsimp only at hSw); go_simp; first | done | with_reducible rfl)
      try simp only [List.getElem_toArray, List.getElem_cons_succ, List.getElem_cons_zero, Act.put, List.setIfInBounds_toArray, List.set_cons_zero, List.set_cons_succ]
      refine Hi.wpE_take (i := 8) (v := ?_) rfl (by kernel_rfl) (by kernel_rfl) (by kernel_rfl) (by simp) (by kernel_rfl) (by kernel_rfl) (fun _ _ _ h => h) (by rfl) ?_ (by assumption) ?_
      rotate_left
      · (intro w' hSw; (try dsimp only at hSw); go_simp; first | done | with_reducible rfl)
      try simp only [List.getElem_toArray, List.getElem_cons_succ, List.getElem_cons_zero, Act.put, List.setIfInBounds_toArray, List.set_cons_zero, List.set_cons_succ]
      refine Hi.wpE_take (i := 9) (v := ?_) rfl (by kernel_rfl) (by kernel_rfl) (by kernel_rfl) (by simp) (by kernel_rfl) (by kernel_rfl) (fun _ _ _ h => h) (by rfl) ?_ (by assumption) ?_
      rotate_left
      · (intro w' hSw; (try dsimp only at hSw); go_simp; first | done | with_reducible rfl)
      try simp only [List.getElem_toArray, List.getElem_cons_succ, List.getElem_cons_zero, Act.put, List.setIfInBounds_toArray, List.set_cons_zero, List.set_cons_succ]
      refine Hi.wpE_take (i := 10) (v := ?_) rfl (by kernel_rfl) (by kernel_rfl) (by kernel_rfl) (by simp) (by kernel_rfl) (by kernel_rfl) (fun _ _ _ h => h) (by rfl) ?_ (by assumption) ?_
      rotate_left
      · (intro w' hSw; (try dsimp only at hSw); go_simp; first | done | with_reducible rfl)
      try simp only [List.getElem_toArray, List.getElem_cons_succ, List.getElem_cons_zero, Act.put, List.setIfInBounds_toArray, List.set_cons_zero, List.set_cons_succ]
      refine Hi.wpE_take (i := 11) (v := ?_) rfl (by kernel_rfl) (by kernel_rfl) (by kernel_rfl) (by simp) (by kernel_rfl) (by kernel_rfl) (fun _ _ _ h => h) (by rfl) ?_ (by assumption) ?_
      rotate_left
      · (intro w' hSw; (try dsimp only at hSw); go_simp; first | done | with_reducible rfl)
      try simp only [List.getElem_toArray, List.getElem_cons_succ, List.getElem_cons_zero, Act.put, List.setIfInBounds_toArray, List.set_cons_zero, List.set_cons_succ]
      refine Hi.wpE_take (i := 12) (v := ?_) rfl (by kernel_rfl) (by kernel_rfl) (by kernel_rfl) (by simp) (by kernel_rfl) (by kernel_rfl) (fun _ _ _ h => h) (by rfl) ?_ (by assumption) ?_
      rotate_left
      · (intro w' hSw; (try dsimp only at hSw); go_simp; first | done | with_reducible rfl)
      try simp only [List.getElem_toArray, List.getElem_cons_succ, List.getElem_cons_zero, Act.put, List.setIfInBounds_toArray, List.set_cons_zero, List.set_cons_succ]
      refine Hi.wpE_take (i := 13) (v := ?_) rfl (by kernel_rfl) (by kernel_rfl) (by kernel_rfl) (by simp) (by kernel_rfl) (by kernel_rfl) (fun _ _ _ h => h) (by rfl) ?_ (by assumption) ?_
      rotate_left
      · (intro w' hSw; (try dsimp only at hSw); go_simp; first | done | with_reducible rfl)
      try simp only [List.getElem_toArray, List.getElem_cons_succ, List.getElem_cons_zero, Act.put, List.setIfInBounds_toArray, List.set_cons_zero, List.set_cons_succ]
      refine Hi.wpE_call (i := 14) (f := 43) (args := #[slV rb row.length rcap]) (by kernel_rfl) rfl (by rfl) (by go_simp; first | done | with_reducible rfl) ?_
      refine (CC.out _ (Kept.mod HMd.out)).mono ?_
      rintro e w2 ⟨v2, rfl, hm2, hf2⟩
      obtain ⟨b2, cap2, rfl⟩ : ∃ b cap, v2 = slV b row.length cap := by obtain ⟨_, b, c, h, _⟩ := hf2; exact ⟨b, c, h⟩
      have HJ2 := Lib.hid (HJ.out _ _ _ HJd.out hm2)
      have HF2 := Lib.hid (hf2.mono (E := D) ((HK.out _ (HJK.out _ _ HJd.out)).size))
      have S2 : w2.cell? ⟨B0, 0, none⟩ = some (ptr g) ∧ w2.cell? ⟨g, 0, none⟩ = some (iv base) ∧ w2.cell? ⟨g, 1, none⟩ = some (.slice (some ⟨b, off, none⟩) un cap) ∧ w2.cell? ⟨b, off + m, none⟩ = some (slV rb row.length rcap) :=
        ⟨(Kept.mod hm2).cell S0.1, (Kept.mod hm2).cell S0.2.1, (Kept.mod hm2).cell S0.2.2.1, (Kept.mod hm2).cell S0.2.2.2⟩
      clear hm2 hf2 CC
      refine ⟨_, rfl, fun _ => S2, ?_⟩
      try simp only [Act.put, List.setIfInBounds_toArray, List.set_cons_zero, List.set_cons_succ]
      refine Hi.wpE_take (i := 15) (v := ?_) rfl (by kernel_rfl) (by kernel_rfl) (by kernel_rfl) (by simp) (by kernel_rfl) (by kernel_rfl) (fun _ _ _ h => h) (by rfl) ?_ (by assumption) ?_
      rotate_left
      · (intro w' hSw; (try dsimp only at hSw); go_simp; first | done | with_reducible rfl)
      try simp only [List.getElem_toArray, List.getElem_cons_succ, List.getElem_cons_zero, Act.put, List.setIfInBounds_toArray, List.set_cons_zero, List.set_cons_succ]
      refine Hi.wpE_yield (i := 16) (l := l) (args := #[.agg #[slV b2 row.length cap2]]) (by kernel_rfl) rfl (by rfl) (by go_simp; first | done | with_reducible rfl) (HY.out pre (slV b2 row.length cap2, row) w2 HJ2.out ⟨HF2.out, HMEM.out⟩ HNB.out) ?_
      rintro e w3 (⟨rfl, hJ3⟩ | ⟨rfl, hJx3⟩)
      · have HJ3 := Lib.hid hJ3
        clear hJ3 S2 S0
        refine ⟨_, rfl, fun h => absurd (by simp) h, ?_⟩
        try simp only [Act.put, List.setIfInBounds_toArray, List.set_cons_zero, List.set_cons_succ]
        refine Hi.wpE_one (i := 17) (by kernel_rfl) rfl (by rfl) ?_
        go_simp
        refine Hi.wpE_done (by kernel_rfl) ?_
        try simp only [Act.put, List.setIfInBounds_toArray, List.set_cons_zero, List.set_cons_succ]
        go_wp2_with fail
        go_roundw
        case rel =>
          refine ⟨k + 1, pre ++ [(slV b2 row.length cap2, row)], by push_cast; congr 1; omega, by simp [HPL.out], ?_, by have := HMM.out; omega, HJ3.out⟩
          rw [List.map_append, HPRE.out, HROW.out]
          rfl
        case measure => simp [intOf]; omega
      · have HJ3 := Lib.hid hJx3
        clear hJx3 S2 S0
        refine ⟨_, rfl, fun h => absurd (by simp) h, ?_⟩
        try simp only [Act.put, List.setIfInBounds_toArray, List.set_cons_zero, List.set_cons_succ]
        refine Hi.wpE_one (i := 17) (by kernel_rfl) rfl (by rfl) ?_
        go_simp
        refine Hi.wpE_done (by kernel_rfl) ?_
        try simp only [Act.put, List.setIfInBounds_toArray, List.set_cons_zero, List.set_cons_succ]
        go_wp2_with fail
        refine bodyPost_ret (results_none rfl _ _ _) rfl ?_
        refine ⟨⟨_, rfl⟩, .inr ⟨pre ++ [(slV b2 row.length cap2, row)], ⟨k + 1, ?_⟩, HJ3.out⟩⟩
        rw [List.map_append, HPRE.out, HROW.out]
        rfl
    · have hge : base + (rows.length : Int) ≤ n + (k : Int) := by have := HD.out; omega
      go_wp2_with fail
      (with_reducible refine EC.out.mono ?_)
      rintro e w1 ⟨rfl, hm1⟩
      have HJ1 := Lib.hid (HJ.out _ _ _ HJw.out hm1)
      clear hm1 EC
      go_wp2_with fail
      go_end0
      refine ⟨⟨_, rfl⟩, .inl ⟨pre, ?_, HJ1.out⟩⟩
      rw [HPRE.out, List.take_of_length_le]
      rw [List.length_drop]; omega
end Go.Proofs.Ytceocpohdckkoaa.Bx
