/- A net's Cut; messages that ask for a vote; the page's example. -/
import Derived.Test.YtgmenlfhkhdbdaaNt5
namespace Go.Proofs.Ytgmenlfhkhdbdaa.Nt
open Go.RowKit Mem Nm Ra
open Ag (It AgW AgT Keep insI woI dueI leftI hasI AddP ItAt)
set_option linter.unusedSimpArgs false
set_option linter.unusedVariables false
set_option maxRecDepth 100000

def cutC (C : Nat → Nat → Bool) (a b : Int) (off : Bool) : Nat → Nat → Bool := if (ndB a && (ndB b && a != b)) = true then setC (setC C a.toNat b.toNat off) b.toNat a.toNat off else C
theorem NetW.cut {w0 A B : World} {g ag mb : Nat} {last : Int} {S : List It} {n : Nat} {M : Int → Option Ms} {C C' : Nat → Nat → Bool} (h : NetW w0 A g ag mb last S n M C) (m : Mod A B [g]) (hb : Blk B g (netC ag mb C') tN) : NetW w0 B g ag mb last S n M C' ∧ KpN A B :=
  ⟨⟨h.md.trans m (by intro r hr; simp only [List.mem_singleton] at hr; subst hr; exact .inr h.g0), h.g0, h.m0, hb, agw_modR h.agw m (by intro r hr; simp only [List.mem_singleton] at hr; subst hr; exact h.g0) (by
    intro r hr cs ty hc
    simp only [List.mem_singleton] at hr
    subst hr
    rw [blk_uni hc h.net]
    exact tN_ag), h.mp.mod m (by rw [List.mem_singleton]; exact h.mp.notBlk h.net), h.sl, h.ok, h.ids⟩, KpN.net h.net m⟩
set_option maxHeartbeats 8000000 in
theorem cut_calls (w0 w : World) (g ag mb : Nat) (last : Int) (S : List It) (n : Nat) (M : Int → Option Ms) (C : Nat → Nat → Bool) (h : NetW w0 w g ag mb last S n M C) (a b : Int) (off : Bool) :
    Calls Try.prog 15 #[.pointer (some ⟨g, 0, none⟩), .int .i64 a, .int .i64 b, .bool off] w fun e w' => e = .returned (.tuple #[]) ∧ NetW w0 w' g ag mb last S n M (cutC C a b off) ∧ KpN w w' := by
  have HN := Lib.hid h
  have N1 := Lib.hid (fun w => node_calls a w)
  have N2 := Lib.hid (fun w => node_calls b w)
  have HC : Hid (cutC C a b off = if (ndB a && (ndB b && a != b)) = true then setC (setC C a.toNat b.toNat off) b.toNat a.toNat off else C) := Lib.hid rfl
  generalize cutC C a b off = C' at *
  clear h
  by_cases h1 : ndB a = true
  · rw [h1] at N1 HC
    by_cases h2 : ndB b = true
    · rw [h2] at N2 HC
      by_cases h3 : a = b
      · have hr : Hid (C' = C) := Lib.hid (by rw [HC.out, h3]; simp)
        subst h3
        clear HC
        go_enter Try.func15, Try.ntmps15
        go_wp2_with fail
        (with_reducible refine (N1.out _).mono ?_)
        rintro e w1 ⟨rfl, rfl⟩
        go_wp2_with fail
        (with_reducible refine (N2.out _).mono ?_)
        rintro e w1 ⟨rfl, rfl⟩
        go_wp2_with fail
        go_end0
        exact ⟨rfl, by rw [hr.out]; exact HN.out, KpN.mod (Mod.refl _ _)⟩
      · have h3b : (a != b) = true := by simpa using h3
        rw [h3b, if_pos (by rfl)] at HC
        obtain ⟨ha0, ha1⟩ := inB_t.1 h1
        obtain ⟨hb0, hb1⟩ := inB_t.1 h2
        obtain ⟨i, rfl⟩ : ∃ i : Nat, a = i := ⟨a.toNat, by omega⟩
        obtain ⟨j, rfl⟩ : ∃ j : Nat, b = j := ⟨b.toNat, by omega⟩
        have hi7 : i < 7 := by omega
        have hj7 : j < 7 := by omega
        have hi7' : (i : Int) < 7 := by omega
        have hj7' : (j : Int) < 7 := by omega
        rw [Int.toNat_natCast, Int.toNat_natCast] at HC
        have A7 := alen7b
        have E7 := ael7b
        have A77 := alen77
        have E77 := ael77
        go_enter Try.func15, Try.ntmps15
        go_wp2_with fail
        (with_reducible refine (N1.out _).mono ?_)
        rintro e w1 ⟨rfl, rfl⟩
        go_wp2_with fail
        (with_reducible refine (N2.out _).mono ?_)
        rintro e w1 ⟨rfl, rfl⟩
        go_wp2_with fail
        refine He.wp_region_e 17 (fun _ => True) (by kernel_rfl) trivial (fun S0 => ?_)
        have HNd := Lib.hid (HN.out.mod ((Mod.refl w []).drew))
        have HKd := Lib.hid (KpN.mod ((Mod.refl w []).drew))
        generalize w.drew = wd at *
        refine He.wpE_take (i := 0) (v := ?_) rfl (by kernel_rfl) (by kernel_rfl) (by kernel_rfl) (by kernel_rfl) (by kernel_rfl) (fun _ _ _ h => h) (by rfl) ?_ (by assumption) ?_
        rotate_left
        · (intro w' hSw; (try dsimp only at hSw); go_simp; first | done | with_reducible rfl)
        try simp only [List.getElem_toArray, List.getElem_cons_succ, List.getElem_cons_zero, Act.put, List.setIfInBounds_toArray, List.set_cons_zero, List.set_cons_succ]
        refine He.wpE_take (i := 1) (v := ?_) rfl (by kernel_rfl) (by kernel_rfl) (by kernel_rfl) (by kernel_rfl) (by kernel_rfl) (fun _ _ _ h => h) (by rfl) ?_ (by assumption) ?_
        rotate_left
        · (intro w' hSw; (try dsimp only at hSw); go_simp; first | done | with_reducible rfl)
        try simp only [List.getElem_toArray, List.getElem_cons_succ, List.getElem_cons_zero, Act.put, List.setIfInBounds_toArray, List.set_cons_zero, List.set_cons_succ]
        refine He.wpE_take (i := 2) (v := ?_) rfl (by kernel_rfl) (by kernel_rfl) (by kernel_rfl) (by kernel_rfl) (by kernel_rfl) (fun _ _ _ h => h) (by rfl) ?_ (by assumption) ?_
        rotate_left
        · (intro w' hSw; (try dsimp only at hSw); go_simp; first | done | with_reducible rfl)
        try simp only [List.getElem_toArray, List.getElem_cons_succ, List.getElem_cons_zero, Act.put, List.setIfInBounds_toArray, List.set_cons_zero, List.set_cons_succ]
        refine He.wpE_take (i := 3) (v := ?_) rfl (by kernel_rfl) (by kernel_rfl) (by kernel_rfl) (by kernel_rfl) (by kernel_rfl) (fun _ _ _ h => h) (by rfl) ?_ (by assumption) ?_
        rotate_left
        · (intro w' hSw; (try dsimp only at hSw); go_simp; first | done | with_reducible rfl)
        try simp only [List.getElem_toArray, List.getElem_cons_succ, List.getElem_cons_zero, Act.put, List.setIfInBounds_toArray, List.set_cons_zero, List.set_cons_succ]
        refine He.wpE_take (i := 4) (v := ?_) rfl (by kernel_rfl) (by kernel_rfl) (by kernel_rfl) (by kernel_rfl) (by kernel_rfl) (fun _ _ _ h => h) (by rfl) ?_ (by assumption) ?_
        rotate_left
        · (intro w' hSw; (try dsimp only at hSw); go_simp; first | done | with_reducible rfl)
        try simp only [List.getElem_toArray, List.getElem_cons_succ, List.getElem_cons_zero, Act.put, List.setIfInBounds_toArray, List.set_cons_zero, List.set_cons_succ]
        refine He.wpE_take (i := 5) (v := ?_) rfl (by kernel_rfl) (by kernel_rfl) (by kernel_rfl) (by kernel_rfl) (by kernel_rfl) (fun _ _ _ h => h) (by rfl) ?_ (by assumption) ?_
        rotate_left
        · (intro w' hSw; (try dsimp only at hSw); go_simp; first | done | with_reducible rfl)
        try simp only [List.getElem_toArray, List.getElem_cons_succ, List.getElem_cons_zero, Act.put, List.setIfInBounds_toArray, List.set_cons_zero, List.set_cons_succ]
        refine He.wpE_take (i := 6) (v := ?_) rfl (by kernel_rfl) (by kernel_rfl) (by kernel_rfl) (by kernel_rfl) (by kernel_rfl) (fun _ _ _ h => h) (by rfl) ?_ (by assumption) ?_
        rotate_left
        · (intro w' hSw; (try dsimp only at hSw); go_simp; first | done | with_reducible rfl)
        try simp only [List.getElem_toArray, List.getElem_cons_succ, List.getElem_cons_zero, Act.put, List.setIfInBounds_toArray, List.set_cons_zero, List.set_cons_succ]
        refine He.wpE_take (i := 7) (v := ?_) rfl (by kernel_rfl) (by kernel_rfl) (by kernel_rfl) (by kernel_rfl) (by kernel_rfl) (fun _ _ _ h => h) (by rfl) ?_ (by assumption) ?_
        rotate_left
        · (intro w' hSw; (try dsimp only at hSw); go_simp; first | done | with_reducible rfl)
        try simp only [List.getElem_toArray, List.getElem_cons_succ, List.getElem_cons_zero, Act.put, List.setIfInBounds_toArray, List.set_cons_zero, List.set_cons_succ]
        refine He.wpE_take (i := 8) (v := ?_) rfl (by kernel_rfl) (by kernel_rfl) (by kernel_rfl) (by kernel_rfl) (by kernel_rfl) (fun _ _ _ h => h) (by rfl) ?_ (by assumption) ?_
        rotate_left
        · (intro w' hSw; (try dsimp only at hSw); go_simp; first | done | with_reducible rfl)
        try simp only [List.getElem_toArray, List.getElem_cons_succ, List.getElem_cons_zero, Act.put, List.setIfInBounds_toArray, List.set_cons_zero, List.set_cons_succ]
        refine He.wpE_take (i := 9) (v := ?_) rfl (by kernel_rfl) (by kernel_rfl) (by kernel_rfl) (by kernel_rfl) (by kernel_rfl) (fun _ _ _ h => h) (by rfl) ?_ (by assumption) ?_
        rotate_left
        · (intro w' hSw; (try dsimp only at hSw); go_simp; first | done | with_reducible rfl)
        try simp only [List.getElem_toArray, List.getElem_cons_succ, List.getElem_cons_zero, Act.put, List.setIfInBounds_toArray, List.set_cons_zero, List.set_cons_succ]
        refine He.wpE_take (i := 10) (v := ?_) rfl (by kernel_rfl) (by kernel_rfl) (by kernel_rfl) (by kernel_rfl) (by kernel_rfl) (fun _ _ _ h => h) (by rfl) ?_ (by assumption) ?_
        rotate_left
        · (intro w' hSw; (try dsimp only at hSw); go_simp; first | done | with_reducible rfl)
        try simp only [List.getElem_toArray, List.getElem_cons_succ, List.getElem_cons_zero, Act.put, List.setIfInBounds_toArray, List.set_cons_zero, List.set_cons_succ]
        refine He.wpE_take (i := 11) (v := ?_) rfl (by kernel_rfl) (by kernel_rfl) (by kernel_rfl) (by kernel_rfl) (by kernel_rfl) (fun _ _ _ h => h) (by rfl) ?_ (by assumption) ?_
        rotate_left
        · (intro w' hSw; (try dsimp only at hSw); go_simp; first | done | with_reducible rfl)
        try simp only [List.getElem_toArray, List.getElem_cons_succ, List.getElem_cons_zero, Act.put, List.setIfInBounds_toArray, List.set_cons_zero, List.set_cons_succ]
        refine He.wpE_take (i := 13) (v := ?_) rfl (by kernel_rfl) (by kernel_rfl) (by kernel_rfl) (by kernel_rfl) (by kernel_rfl) (fun _ _ _ h => h) (by rfl) ?_ (by assumption) ?_
        rotate_left
        · (intro w' hSw; (try dsimp only at hSw); go_simp; first | done | with_reducible rfl)
        try simp only [List.getElem_toArray, List.getElem_cons_succ, List.getElem_cons_zero, Act.put, List.setIfInBounds_toArray, List.set_cons_zero, List.set_cons_succ]
        refine He.wpE_take (i := 14) (v := ?_) rfl (by kernel_rfl) (by kernel_rfl) (by kernel_rfl) (by kernel_rfl) (by kernel_rfl) (fun _ _ _ h => h) (by rfl) ?_ (by assumption) ?_
        rotate_left
        · (intro w' hSw; (try dsimp only at hSw); go_simp; first | done | with_reducible rfl)
        try simp only [List.getElem_toArray, List.getElem_cons_succ, List.getElem_cons_zero, Act.put, List.setIfInBounds_toArray, List.set_cons_zero, List.set_cons_succ]
        refine He.wpE_take (i := 15) (v := ?_) rfl (by kernel_rfl) (by kernel_rfl) (by kernel_rfl) (by kernel_rfl) (by kernel_rfl) (fun _ _ _ h => h) (by rfl) ?_ (by assumption) ?_
        rotate_left
        · (intro w' hSw; (try dsimp only at hSw); go_simp; first | done | with_reducible rfl)
        try simp only [List.getElem_toArray, List.getElem_cons_succ, List.getElem_cons_zero, Act.put, List.setIfInBounds_toArray, List.set_cons_zero, List.set_cons_succ]
        have n1 : wd.cell? ⟨g, 2 + i * 7 + j, none⟩ = some (.bool (C i j)) := by rw [HNd.out.net.cell, netC_get _ _ _ _ _ hi7 hj7]
        have f1 := HNd.out.net.free (2 + i * 7 + j)
        refine He.wpE_one (i := 12) (by kernel_rfl) rfl (by rfl) (fun K hK => ?_)
        go_simp
        refine hK.out _ _ (fun _ => trivial) ?_
        clear hK K
        try simp only [Act.put, List.setIfInBounds_toArray, List.set_cons_zero, List.set_cons_succ]
        have hb1 := HNd.out.net.set (2 + i * 7 + j) (.bool off)
        rw [netC_set _ _ _ _ _ hi7 hj7] at hb1
        have HM1 := Lib.hid ((Mod.refl wd [g]).setCell (p := ⟨g, 2 + i * 7 + j, none⟩) (.inl (by simp)) (.bool off))
        have HB1 := Lib.hid hb1
        clear hb1 n1 f1
        generalize wd.setCell _ _ = w2 at *
        refine He.wpE_take (i := 16) (v := ?_) rfl (by kernel_rfl) (by kernel_rfl) (by kernel_rfl) (by kernel_rfl) (by kernel_rfl) (fun _ _ _ h => h) (by rfl) ?_ (by assumption) ?_
        rotate_left
        · (intro w' hSw; (try dsimp only at hSw); go_simp; first | done | with_reducible rfl)
        try simp only [List.getElem_toArray, List.getElem_cons_succ, List.getElem_cons_zero, Act.put, List.setIfInBounds_toArray, List.set_cons_zero, List.set_cons_succ]
        have n2 : w2.cell? ⟨g, 2 + j * 7 + i, none⟩ = some (.bool (setC C i j off j i)) := by rw [HB1.out.cell, netC_get _ _ _ _ _ hj7 hi7]
        have f2 := HB1.out.free (2 + j * 7 + i)
        refine He.wpE_one (i := 17) (by kernel_rfl) rfl (by rfl) (fun K hK => ?_)
        go_simp
        refine hK.out _ _ (fun h => absurd rfl h) ?_
        clear hK K
        refine He.wpE_done (by kernel_rfl) ?_
        try simp only [Act.put, List.setIfInBounds_toArray, List.set_cons_zero, List.set_cons_succ]
        have hb2 := HB1.out.set (2 + j * 7 + i) (.bool off)
        rw [netC_set _ _ _ _ _ hj7 hi7, ← HC.out] at hb2
        have HM2 := Lib.hid (HM1.out.setCell (p := ⟨g, 2 + j * 7 + i, none⟩) (.inl (by simp)) (.bool off))
        have HF := Lib.hid (HNd.out.cut HM2.out hb2)
        clear hb2 n2 f2
        go_wp2_with fail
        go_end0
        exact ⟨rfl, HF.out.1, HKd.out.trans HF.out.2⟩
    · have h2' : ndB b = false := by simpa using h2
      rw [h2'] at N2 HC
      have hr : Hid (C' = C) := Lib.hid (by rw [HC.out]; simp)
      clear HC
      go_enter Try.func15, Try.ntmps15
      go_wp2_with fail
      (with_reducible refine (N1.out _).mono ?_)
      rintro e w1 ⟨rfl, rfl⟩
      go_wp2_with fail
      (with_reducible refine (N2.out _).mono ?_)
      rintro e w1 ⟨rfl, rfl⟩
      go_wp2_with fail
      go_end0
      exact ⟨rfl, by rw [hr.out]; exact HN.out, KpN.mod (Mod.refl _ _)⟩
  · have h1' : ndB a = false := by simpa using h1
    rw [h1'] at N1 HC
    have hr : Hid (C' = C) := Lib.hid (by rw [HC.out]; simp)
    clear HC
    go_enter Try.func15, Try.ntmps15
    go_wp2_with fail
    (with_reducible refine (N1.out _).mono ?_)
    rintro e w1 ⟨rfl, rfl⟩
    go_wp2_with fail
    go_end0
    exact ⟨rfl, by rw [hr.out]; exact HN.out, KpN.mod (Mod.refl _ _)⟩

/-- A message that asks for a vote. -/
def askM (f t n : Int) : Ms := ⟨1, f, t, n, 0, 0, 0, false, [], 0, 0, 0, ⟨#[]⟩⟩
theorem ask_check (f t n : Int) (hf : 0 ≤ f ∧ f ≤ 6) (ht : 0 ≤ t ∧ t ≤ 6) (hn : 0 ≤ n ∧ n ≤ 549755813888) : checkB (askM f t n) = !(f == t) := by
  have h0 : ixB 0 = true := inB_t.2 (by omega)
  have hs : snB 0 0 0 ⟨#[]⟩ = true := by decide
  have hfd : fieldsB (askM f t n) = true := by
    have hns : noSn 0 0 0 ⟨#[]⟩ = true := by decide +kernel
    unfold fieldsB fldB askM
    rw [if_pos rfl]
    simp [hns]
  unfold checkB
  rw [hfd]
  unfold askM
  simp only [inB_t.2 hf, inB_t.2 ht, List.all_cons, List.all_nil, show ixB n = true from inB_t.2 hn, h0, hs]
  simp
abbrev askV (f t n : Int) : Value := .agg #[.int .i64 1, .int .i64 f, .int .i64 t, .int .i64 n, .int .i64 0, .int .i64 0, .int .i64 0, .bool false, .slice none 0 0, .int .i64 0, .int .i64 0, .int .i64 0, .string ⟨#[]⟩]
theorem ask_calls (f t n : Int) (w : World) : Calls Try.prog 13 #[.int .i64 f, .int .i64 t, .int .i64 n] w fun e w' => e = .returned (askV f t n) ∧ Mod w w' [] := by
  have HB := Lib.hid (Blk.new w #[.int .i64 1, .int .i64 f, .int .i64 t, .int .i64 n, .int .i64 0, .int .i64 0, .int .i64 0, .bool false, .slice none 0 0, .int .i64 0, .int .i64 0, .int .i64 0, .string ⟨#[]⟩] 33)
  go_enter Try.func13, Try.ntmps13
  go_wp2_with fail
  refine bodyPost_ret (v := askV f t n) (by simp [results, Try.results13, go_sem]) rfl ⟨rfl, ?_⟩
  exact (Mod.refl _ _).alloc _
theorem ens_nil (w : World) : EnsV w (.slice none 0 0) [] := ⟨none, 0, rfl, Nat.le_refl _, .inl rfl⟩
theorem asend_calls (w0 w : World) (g ag mb : Nat) (last : Int) (S : List It) (n : Nat) (M : Int → Option Ms) (C : Nat → Nat → Bool) (h : NetW w0 w g ag mb last S n M C) (hl : 0 ≤ last ∧ last ≤ 1000000) (hnn : n ≤ 10000000) (now f t k delay : Int) :
    Calls Try.prog 12 #[.pointer (some ⟨g, 0, none⟩), .int .i64 now, askV f t k, .int .i64 delay] w (SendP w0 g ag mb last S n M C now (askM f t k) delay w) :=
  send_calls w0 w g ag mb last S n M C h hl hnn now (askM f t k) (.slice none 0 0) delay (ens_nil w) (Nat.zero_le _)
end Go.Proofs.Ytgmenlfhkhdbdaa.Nt
