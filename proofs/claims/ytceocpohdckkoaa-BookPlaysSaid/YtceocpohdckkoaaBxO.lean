/- Books: the law's same, where the book is the document's. -/
import Derived.Test.YtceocpohdckkoaaBxN
import Derived.Test.YtceocpohdckkoaaBxL
namespace Go.Proofs.Ytceocpohdckkoaa.Bx
open Go.RowKit Mem Bits
set_option linter.unusedSimpArgs false
set_option linter.unusedVariables false
set_option maxRecDepth 100000

theorem readS_all {base : Int} {rows : List (List Int)} (h : Okb base rows) : readS base rows base 1000 = (rows, base + (rows.length : Int), 0) := by
  have h1 := h.lo
  have h2 := h.len
  unfold readS
  rw [if_neg (by omega), if_neg (by omega), Int.sub_self, show ((0 : Int)).toNat = 0 from rfl, List.drop_zero, show ((1000 : Int)).toNat = 1000 from rfl, List.take_of_length_le (by omega)]

theorem OutAt.mod {D : Nat} {A B : World} {v : Value} {outs : List (List Int)} (h : OutAt D A v outs) (m : Mod A B []) : OutAt D B v outs := by
  obtain ⟨us, h1, h2⟩ := h
  exact ⟨us, (Kept.mod m).own h1, all2_mono (fun _ _ h => h.kept (Kept.mod m)) h2⟩
set_option maxHeartbeats 8000000 in
theorem same_calls {w : World} {N N2 : Nat} {g : Nat} {base : Int} {rows : List (List Int)} {v : Value} (h : BookAt w N (fun _ => False) g base rows) (hr : RrAt N2 w v rows) (hok : Okb base rows) :
    Calls Try.prog 35 #[ptr g, .agg #[.int .i64 base, v]] w fun e w' => e = .returned (.bool true) ∧ Mod w w' [] := by
  obtain ⟨va, vc, rfl, hvc⟩ := hr.slice
  have hb0 := hok.lo
  have hb1 : base ≤ 549755813888 := by have := hok.hi; omega
  have hl := hok.len
  have H := Lib.hid h
  have HR := Lib.hid hr
  have HR16 : Hid (∀ r ∈ rows, r.length ≤ 16 ∧ ∀ x ∈ r, 0 ≤ x ∧ x ≤ 9223372036854775807) := Lib.hid (fun r hr => by
    obtain ⟨_, h2, h3⟩ := mayB_vals (hok.may r hr)
    exact ⟨h2, fun x hx => by have := h3 x hx; omega⟩)
  have HOK := Lib.hid hok
  have hl' : (rows.length : Int) ≤ 64 := by omega
  have hn0 : (0 : Int) ≤ base + (rows.length : Int) := by omega
  have hn1 : base + (rows.length : Int) ≤ 549755813952 := by omega
  have hwr : IntKind.i64.wrap (base + (rows.length : Int)) = base + (rows.length : Int) := IntWalk.i64_in _ (by omega)
  have HBX0 := Lib.hid (Blk.new w #[.int .i64 base, .slice va rows.length vc] 57)
  have HM0 := Lib.hid ((Mod.refl w []).alloc (.cells #[.int .i64 base, .slice va rows.length vc] 57))
  clear h hr hok
  go_enter Try.func35, Try.ntmps35
  go_wp2_with fail
  generalize w.heap.size = BX at *
  generalize w.alloc _ = W at *
  have HC : Hid (∀ (w' : World), Blk w' BX #[.int .i64 base, .slice va rows.length vc] 57 → w'.cell? ⟨BX, 0, none⟩ = some (.int .i64 base) ∧ w'.cell? ⟨BX, 1, none⟩ = some (.slice va rows.length vc)) := Lib.hid (fun w' hb => ⟨hb.cell 0, hb.cell 1⟩)
  have CB := Lib.hid (fun (w' : World) (m : Mod w w' []) => base_calls (H.out.mod m))
  have CE := Lib.hid (fun (w' : World) (m : Mod w w' []) => end_calls (H.out.mod m) (by omega) hb1 (by omega))
  have CR := Lib.hid (fun (w' : World) (m : Mod w w' []) => by
    have h := read_calls (H.out.mod m) base 1000 (by omega) (by omega) hb0 hb1 hl (fun r hr => (HR16.out r hr).1)
    rw [readS_all HOK.out] at h
    exact h)
  have CW := Lib.hid (fun (w' : World) (D : Nat) (u : Value) (ho : OutAt D w' u rows) => rows_calls u rows ho (by omega))
  have CS := Lib.hid (fun (w' : World) (m : Mod w w' []) (u : Value) (ho : RrAt 0 w' u rows) => by
    have h := rsame_calls u (.slice va rows.length vc) rows rows ho (HR.out.mod m) (by omega) (by omega) (fun r hr => by have := (HR16.out r hr).1; omega) (fun r hr => by have := (HR16.out r hr).1; omega)
    rw [decide_eq_true rfl] at h
    exact h)
  have CT := Lib.hid (fun (w' : World) (m : Mod w w' []) => text_calls (H.out.mod m) hb0 hb1 hl HR16.out)
  have CU := Lib.hid (fun (w' : World) (m : Mod w w' []) => rtext_calls base _ rows (HR.out.mod m) hb0 hb1 hl HR16.out)
  clear H HR HR16 HOK
  (with_reducible refine (CB.out _ HM0.out).mono ?_)
  rintro e w1 ⟨rfl, rfl⟩
  go_wp2_with fail
  (with_reducible refine (CR.out _ HM0.out).mono ?_)
  rintro e w1 ⟨u1, rfl, hm1, ho1⟩
  have HM1 := Lib.hid (HM0.out.trans0 hm1)
  have HBX1 := Lib.hid (HBX0.out.mod hm1 (by simp))
  have HO1 := Lib.hid ho1
  clear hm1 ho1 CR
  go_wp2_with fail
  have SD := HC.out w1.drew HBX1.out.drew
  have HM2 := Lib.hid HM1.out.drew
  have HBX2 := Lib.hid HBX1.out.drew
  have HO2 := Lib.hid (OutAt.mod HO1.out ((Mod.refl w1 []).drew))
  refine He.wp_region_e 40 (fun w' => w'.cell? ⟨BX, 0, none⟩ = some (.int .i64 base) ∧ w'.cell? ⟨BX, 1, none⟩ = some (.slice va rows.length vc)) (by kernel_rfl) SD (fun S0 => ?_)
  generalize w1.drew = w2 at *
  refine He.wpE_take (i := 0) (v := ?_) rfl (by kernel_rfl) (by kernel_rfl) (by kernel_rfl) (by kernel_rfl) (by kernel_rfl) (fun _ _ _ h => h) (by rfl) ?_ (by assumption) ?_
  rotate_left
  · (intro w' hSw; (try dsimp only at hSw); go_simp; first | done | with_reducible rfl)
  try simp only [List.getElem_toArray, List.getElem_cons_succ, List.getElem_cons_zero, Act.put, List.setIfInBounds_toArray, List.set_cons_zero, List.set_cons_succ]
  refine He.wpE_take (i := 1) (v := ?_) rfl (by kernel_rfl) (by kernel_rfl) (by kernel_rfl) (by kernel_rfl) (by kernel_rfl) (fun _ _ _ h => h) (by rfl) ?_ (by assumption) ?_
  rotate_left
  · (intro w' hSw; (try dsimp only at hSw); go_simp; first | done | with_reducible rfl)
  try simp only [List.getElem_toArray, List.getElem_cons_succ, List.getElem_cons_zero, Act.put, List.setIfInBounds_toArray, List.set_cons_zero, List.set_cons_succ]
  refine He.wpE_take (i := 2) (v := ?_) rfl (by kernel_rfl) (by kernel_rfl) (by kernel_rfl) (by kernel_rfl) (by kernel_rfl) (fun _ _ _ h => h) (by rfl) ?_ (by assumption) ?_
  rotate_left
  · (intro w' hSw; (try dsimp only at hSw); go_simp; first | done | with_reducible rfl)
  try simp only [List.getElem_toArray, List.getElem_cons_succ, List.getElem_cons_zero, Act.put, List.setIfInBounds_toArray, List.set_cons_zero, List.set_cons_succ]
  refine He.wpE_take (i := 3) (v := ?_) rfl (by kernel_rfl) (by kernel_rfl) (by kernel_rfl) (by kernel_rfl) (by kernel_rfl) (fun _ _ _ h => h) (by rfl) ?_ (by assumption) ?_
  rotate_left
  · (intro w' hSw; (try dsimp only at hSw); go_simp; first | done | with_reducible rfl)
  try simp only [List.getElem_toArray, List.getElem_cons_succ, List.getElem_cons_zero, Act.put, List.setIfInBounds_toArray, List.set_cons_zero, List.set_cons_succ]
  refine He.wpE_take (i := 5) (v := ?_) rfl (by kernel_rfl) (by kernel_rfl) (by kernel_rfl) (by kernel_rfl) (by kernel_rfl) (fun _ _ _ h => h) (by rfl) ?_ (by assumption) ?_
  rotate_left
  · (intro w' hSw; (try dsimp only at hSw); go_simp; first | done | with_reducible rfl)
  try simp only [List.getElem_toArray, List.getElem_cons_succ, List.getElem_cons_zero, Act.put, List.setIfInBounds_toArray, List.set_cons_zero, List.set_cons_succ]
  refine He.wpE_take (i := 6) (v := ?_) rfl (by kernel_rfl) (by kernel_rfl) (by kernel_rfl) (by kernel_rfl) (by kernel_rfl) (fun _ _ _ h => h) (by rfl) ?_ (by assumption) ?_
  rotate_left
  · (intro w' hSw; (try dsimp only at hSw); go_simp; first | done | with_reducible rfl)
  try simp only [List.getElem_toArray, List.getElem_cons_succ, List.getElem_cons_zero, Act.put, List.setIfInBounds_toArray, List.set_cons_zero, List.set_cons_succ]
  refine He.wpE_one (i := 4) (by kernel_rfl) rfl (by rfl) (fun K hK => ?_)
  go_simp
  (with_reducible refine (CB.out _ HM2.out).mono ?_)
  rintro e w3 ⟨rfl, rfl⟩
  refine hK.out _ _ (fun _ => S0) ?_
  clear hK K
  try simp only [Act.put, List.setIfInBounds_toArray, List.set_cons_zero, List.set_cons_succ]
  refine He.wpE_take (i := 7) (v := ?_) rfl (by kernel_rfl) (by kernel_rfl) (by kernel_rfl) (by kernel_rfl) (by kernel_rfl) (fun _ _ _ h => h) (by rfl) ?_ (by assumption) ?_
  rotate_left
  · (intro w' hSw; (try dsimp only at hSw); go_simp; first | done | with_reducible rfl)
  try simp only [List.getElem_toArray, List.getElem_cons_succ, List.getElem_cons_zero, Act.put, List.setIfInBounds_toArray, List.set_cons_zero, List.set_cons_succ]
  refine He.wpE_take (i := 8) (v := ?_) rfl (by kernel_rfl) (by kernel_rfl) (by kernel_rfl) (by kernel_rfl) (by kernel_rfl) (fun _ _ _ h => h) (by rfl) ?_ (by assumption) ?_
  rotate_left
  · (intro w' hSw; (try dsimp only at hSw); go_simp; first | done | with_reducible rfl)
  try simp only [List.getElem_toArray, List.getElem_cons_succ, List.getElem_cons_zero, Act.put, List.setIfInBounds_toArray, List.set_cons_zero, List.set_cons_succ]
  refine He.wpE_take (i := 9) (v := ?_) rfl (by kernel_rfl) (by kernel_rfl) (by kernel_rfl) (by kernel_rfl) (by kernel_rfl) (fun _ _ _ h => h) (by rfl) ?_ (by assumption) ?_
  rotate_left
  · (intro w' hSw; (try dsimp only at hSw); go_simp; first | done | with_reducible rfl)
  try simp only [List.getElem_toArray, List.getElem_cons_succ, List.getElem_cons_zero, Act.put, List.setIfInBounds_toArray, List.set_cons_zero, List.set_cons_succ]
  refine He.wpE_take (i := 10) (v := ?_) rfl (by kernel_rfl) (by kernel_rfl) (by kernel_rfl) (by kernel_rfl) (by kernel_rfl) (fun _ _ _ h => h) (by rfl) ?_ (by assumption) ?_
  rotate_left
  · (intro w' hSw; (try dsimp only at hSw); go_simp; first | done | with_reducible rfl)
  try simp only [List.getElem_toArray, List.getElem_cons_succ, List.getElem_cons_zero, Act.put, List.setIfInBounds_toArray, List.set_cons_zero, List.set_cons_succ]
  refine He.wpE_take (i := 12) (v := ?_) rfl (by kernel_rfl) (by kernel_rfl) (by kernel_rfl) (by kernel_rfl) (by kernel_rfl) (fun _ _ _ h => h) (by rfl) ?_ (by assumption) ?_
  rotate_left
  · (intro w' hSw; (try dsimp only at hSw); go_simp; first | done | with_reducible rfl)
  try simp only [List.getElem_toArray, List.getElem_cons_succ, List.getElem_cons_zero, Act.put, List.setIfInBounds_toArray, List.set_cons_zero, List.set_cons_succ]
  refine He.wpE_take (i := 13) (v := ?_) rfl (by kernel_rfl) (by kernel_rfl) (by kernel_rfl) (by kernel_rfl) (by kernel_rfl) (fun _ _ _ h => h) (by rfl) ?_ (by assumption) ?_
  rotate_left
  · (intro w' hSw; (try dsimp only at hSw); go_simp; first | done | with_reducible rfl)
  try simp only [List.getElem_toArray, List.getElem_cons_succ, List.getElem_cons_zero, Act.put, List.setIfInBounds_toArray, List.set_cons_zero, List.set_cons_succ]
  refine He.wpE_take (i := 14) (v := ?_) rfl (by kernel_rfl) (by kernel_rfl) (by kernel_rfl) (by kernel_rfl) (by kernel_rfl) (fun _ _ _ h => h) (by rfl) ?_ (by assumption) ?_
  rotate_left
  · (intro w' hSw; (try dsimp only at hSw); go_simp; first | done | with_reducible rfl)
  try simp only [List.getElem_toArray, List.getElem_cons_succ, List.getElem_cons_zero, Act.put, List.setIfInBounds_toArray, List.set_cons_zero, List.set_cons_succ]
  refine He.wpE_take (i := 15) (v := ?_) rfl (by kernel_rfl) (by kernel_rfl) (by kernel_rfl) (by kernel_rfl) (by kernel_rfl) (fun _ _ _ h => h) (by rfl) ?_ (by assumption) ?_
  rotate_left
  · (intro w' hSw; (try dsimp only at hSw); go_simp; first | done | with_reducible rfl)
  try simp only [List.getElem_toArray, List.getElem_cons_succ, List.getElem_cons_zero, Act.put, List.setIfInBounds_toArray, List.set_cons_zero, List.set_cons_succ]
  refine He.wpE_take (i := 16) (v := ?_) rfl (by kernel_rfl) (by kernel_rfl) (by kernel_rfl) (by kernel_rfl) (by kernel_rfl) (fun _ _ _ h => h) (by rfl) ?_ (by assumption) ?_
  rotate_left
  · (intro w' hSw; (try dsimp only at hSw); go_simp; first | done | with_reducible rfl)
  try simp only [List.getElem_toArray, List.getElem_cons_succ, List.getElem_cons_zero, Act.put, List.setIfInBounds_toArray, List.set_cons_zero, List.set_cons_succ]
  refine He.wpE_take (i := 17) (v := ?_) rfl (by kernel_rfl) (by kernel_rfl) (by kernel_rfl) (by kernel_rfl) (by kernel_rfl) (fun _ _ _ h => h) (by rfl) ?_ (by assumption) ?_
  rotate_left
  · (intro w' hSw; (try dsimp only at hSw); go_simp; first | done | with_reducible rfl)
  try simp only [List.getElem_toArray, List.getElem_cons_succ, List.getElem_cons_zero, Act.put, List.setIfInBounds_toArray, List.set_cons_zero, List.set_cons_succ]
  refine He.wpE_one (i := 11) (by kernel_rfl) rfl (by rfl) (fun K hK => ?_)
  go_simp
  (with_reducible refine (CE.out _ HM2.out).mono ?_)
  rintro e w3 ⟨rfl, hm3⟩
  have HM3 := Lib.hid (HM2.out.trans0 hm3)
  have HBX3 := Lib.hid (HBX2.out.mod hm3 (by simp))
  have HO3 := Lib.hid (OutAt.mod HO2.out hm3)
  have S3 : w3.cell? ⟨BX, 0, none⟩ = some (.int .i64 base) ∧ w3.cell? ⟨BX, 1, none⟩ = some (.slice va rows.length vc) := HC.out _ HBX3.out
  refine hK.out _ _ (fun _ => S3) ?_
  clear hK K hm3 HM2 HBX2
  try simp only [Act.put, List.setIfInBounds_toArray, List.set_cons_zero, List.set_cons_succ]
  refine He.wpE_take (i := 18) (v := ?_) rfl (by kernel_rfl) (by kernel_rfl) (by kernel_rfl) (by kernel_rfl) (by kernel_rfl) (fun _ _ _ h => h) (by rfl) ?_ (by assumption) ?_
  rotate_left
  · (intro w' hSw; (try dsimp only at hSw); go_simp; first | done | with_reducible rfl)
  try simp only [List.getElem_toArray, List.getElem_cons_succ, List.getElem_cons_zero, Act.put, List.setIfInBounds_toArray, List.set_cons_zero, List.set_cons_succ]
  refine He.wpE_take (i := 19) (v := ?_) rfl (by kernel_rfl) (by kernel_rfl) (by kernel_rfl) (by kernel_rfl) (by kernel_rfl) (fun _ _ _ h => h) (by rfl) ?_ (by assumption) ?_
  rotate_left
  · (intro w' hSw; (try dsimp only at hSw); go_simp; first | done | with_reducible rfl)
  try simp only [List.getElem_toArray, List.getElem_cons_succ, List.getElem_cons_zero, Act.put, List.setIfInBounds_toArray, List.set_cons_zero, List.set_cons_succ]
  refine He.wpE_take (i := 20) (v := ?_) rfl (by kernel_rfl) (by kernel_rfl) (by kernel_rfl) (by kernel_rfl) (by kernel_rfl) (fun _ _ _ h => h) (by rfl) ?_ (by assumption) ?_
  rotate_left
  · (intro w' hSw; (try dsimp only at hSw); go_simp; first | done | with_reducible rfl)
  try simp only [List.getElem_toArray, List.getElem_cons_succ, List.getElem_cons_zero, Act.put, List.setIfInBounds_toArray, List.set_cons_zero, List.set_cons_succ]
  refine He.wpE_take (i := 21) (v := ?_) rfl (by kernel_rfl) (by kernel_rfl) (by kernel_rfl) (by kernel_rfl) (by kernel_rfl) (fun _ _ _ h => h) (by rfl) ?_ (by assumption) ?_
  rotate_left
  · (intro w' hSw; (try dsimp only at hSw); go_simp; first | done | with_reducible rfl)
  try simp only [List.getElem_toArray, List.getElem_cons_succ, List.getElem_cons_zero, Act.put, List.setIfInBounds_toArray, List.set_cons_zero, List.set_cons_succ]
  refine He.wpE_take (i := 22) (v := ?_) rfl (by kernel_rfl) (by kernel_rfl) (by kernel_rfl) (by kernel_rfl) (by kernel_rfl) (fun _ _ _ h => h) (by rfl) ?_ (by assumption) ?_
  rotate_left
  · (intro w' hSw; (try dsimp only at hSw); go_simp; first | done | with_reducible rfl)
  try simp only [List.getElem_toArray, List.getElem_cons_succ, List.getElem_cons_zero, Act.put, List.setIfInBounds_toArray, List.set_cons_zero, List.set_cons_succ]
  refine He.wpE_one (i := 23) (by kernel_rfl) rfl (by rfl) (fun K hK => ?_)
  go_simp
  (with_reducible refine (CE.out _ HM3.out).mono ?_)
  rintro e w4 ⟨rfl, hm4⟩
  have HM4 := Lib.hid (HM3.out.trans0 hm4)
  have HBX4 := Lib.hid (HBX3.out.mod hm4 (by simp))
  have HO4 := Lib.hid (OutAt.mod HO3.out hm4)
  have S4 : w4.cell? ⟨BX, 0, none⟩ = some (.int .i64 base) ∧ w4.cell? ⟨BX, 1, none⟩ = some (.slice va rows.length vc) := HC.out _ HBX4.out
  refine hK.out _ _ (fun _ => S4) ?_
  clear hK K hm4 HM3 HBX3
  try simp only [Act.put, List.setIfInBounds_toArray, List.set_cons_zero, List.set_cons_succ]
  refine He.wpE_take (i := 24) (v := ?_) rfl (by kernel_rfl) (by kernel_rfl) (by kernel_rfl) (by kernel_rfl) (by kernel_rfl) (fun _ _ _ h => h) (by rfl) ?_ (by assumption) ?_
  rotate_left
  · (intro w' hSw; (try dsimp only at hSw); go_simp; first | done | with_reducible rfl)
  try simp only [List.getElem_toArray, List.getElem_cons_succ, List.getElem_cons_zero, Act.put, List.setIfInBounds_toArray, List.set_cons_zero, List.set_cons_succ]
  refine He.wpE_take (i := 25) (v := ?_) rfl (by kernel_rfl) (by kernel_rfl) (by kernel_rfl) (by kernel_rfl) (by kernel_rfl) (fun _ _ _ h => h) (by rfl) ?_ (by assumption) ?_
  rotate_left
  · (intro w' hSw; (try dsimp only at hSw); go_simp; first | done | with_reducible rfl)
  try simp only [List.getElem_toArray, List.getElem_cons_succ, List.getElem_cons_zero, Act.put, List.setIfInBounds_toArray, List.set_cons_zero, List.set_cons_succ]
  refine He.wpE_take (i := 26) (v := ?_) rfl (by kernel_rfl) (by kernel_rfl) (by kernel_rfl) (by kernel_rfl) (by kernel_rfl) (fun _ _ _ h => h) (by rfl) ?_ (by assumption) ?_
  rotate_left
  · (intro w' hSw; (try dsimp only at hSw); go_simp; first | done | with_reducible rfl)
  try simp only [List.getElem_toArray, List.getElem_cons_succ, List.getElem_cons_zero, Act.put, List.setIfInBounds_toArray, List.set_cons_zero, List.set_cons_succ]
  refine He.wpE_take (i := 27) (v := ?_) rfl (by kernel_rfl) (by kernel_rfl) (by kernel_rfl) (by kernel_rfl) (by kernel_rfl) (fun _ _ _ h => h) (by rfl) ?_ (by assumption) ?_
  rotate_left
  · (intro w' hSw; (try dsimp only at hSw); go_simp; first | done | with_reducible rfl)
  try simp only [List.getElem_toArray, List.getElem_cons_succ, List.getElem_cons_zero, Act.put, List.setIfInBounds_toArray, List.set_cons_zero, List.set_cons_succ]
  refine He.wpE_take (i := 29) (v := ?_) rfl (by kernel_rfl) (by kernel_rfl) (by kernel_rfl) (by kernel_rfl) (by kernel_rfl) (fun _ _ _ h => h) (by rfl) ?_ (by assumption) ?_
  rotate_left
  · (intro w' hSw; (try dsimp only at hSw); go_simp; first | done | with_reducible rfl)
  try simp only [List.getElem_toArray, List.getElem_cons_succ, List.getElem_cons_zero, Act.put, List.setIfInBounds_toArray, List.set_cons_zero, List.set_cons_succ]
  refine He.wpE_take (i := 30) (v := ?_) rfl (by kernel_rfl) (by kernel_rfl) (by kernel_rfl) (by kernel_rfl) (by kernel_rfl) (fun _ _ _ h => h) (by rfl) ?_ (by assumption) ?_
  rotate_left
  · (intro w' hSw; (try dsimp only at hSw); go_simp; first | done | with_reducible rfl)
  try simp only [List.getElem_toArray, List.getElem_cons_succ, List.getElem_cons_zero, Act.put, List.setIfInBounds_toArray, List.set_cons_zero, List.set_cons_succ]
  refine He.wpE_one (i := 28) (by kernel_rfl) rfl (by rfl) (fun K hK => ?_)
  go_simp
  (with_reducible refine (CW.out _ _ _ HO4.out).mono ?_)
  rintro e w5 ⟨u2, rfl, hm5, hr5⟩
  have HM5 := Lib.hid (HM4.out.trans0 hm5)
  have HBX5 := Lib.hid (HBX4.out.mod hm5 (by simp))
  have HR5 := Lib.hid hr5
  have S5 : w5.cell? ⟨BX, 0, none⟩ = some (.int .i64 base) ∧ w5.cell? ⟨BX, 1, none⟩ = some (.slice va rows.length vc) := HC.out _ HBX5.out
  refine hK.out _ _ (fun _ => S5) ?_
  clear hK K hm5 HM4 HBX4
  try simp only [Act.put, List.setIfInBounds_toArray, List.set_cons_zero, List.set_cons_succ]
  refine He.wpE_one (i := 31) (by kernel_rfl) rfl (by rfl) (fun K hK => ?_)
  go_simp
  (with_reducible refine (CS.out _ HM5.out _ HR5.out).mono ?_)
  rintro e w6 ⟨rfl, hm6⟩
  have HM6 := Lib.hid (HM5.out.trans0 hm6)
  have HBX6 := Lib.hid (HBX5.out.mod hm6 (by simp))
  have S6 : w6.cell? ⟨BX, 0, none⟩ = some (.int .i64 base) ∧ w6.cell? ⟨BX, 1, none⟩ = some (.slice va rows.length vc) := HC.out _ HBX6.out
  refine hK.out _ _ (fun _ => S6) ?_
  clear hK K hm6 HM5 HBX5
  try simp only [Act.put, List.setIfInBounds_toArray, List.set_cons_zero, List.set_cons_succ]
  refine He.wpE_take (i := 32) (v := ?_) rfl (by kernel_rfl) (by kernel_rfl) (by kernel_rfl) (by kernel_rfl) (by kernel_rfl) (fun _ _ _ h => h) (by rfl) ?_ (by assumption) ?_
  rotate_left
  · (intro w' hSw; (try dsimp only at hSw); go_simp; first | done | with_reducible rfl)
  try simp only [List.getElem_toArray, List.getElem_cons_succ, List.getElem_cons_zero, Act.put, List.setIfInBounds_toArray, List.set_cons_zero, List.set_cons_succ]
  refine He.wpE_take (i := 33) (v := ?_) rfl (by kernel_rfl) (by kernel_rfl) (by kernel_rfl) (by kernel_rfl) (by kernel_rfl) (fun _ _ _ h => h) (by rfl) ?_ (by assumption) ?_
  rotate_left
  · (intro w' hSw; (try dsimp only at hSw); go_simp; first | done | with_reducible rfl)
  try simp only [List.getElem_toArray, List.getElem_cons_succ, List.getElem_cons_zero, Act.put, List.setIfInBounds_toArray, List.set_cons_zero, List.set_cons_succ]
  refine He.wpE_take (i := 34) (v := ?_) rfl (by kernel_rfl) (by kernel_rfl) (by kernel_rfl) (by kernel_rfl) (by kernel_rfl) (fun _ _ _ h => h) (by rfl) ?_ (by assumption) ?_
  rotate_left
  · (intro w' hSw; (try dsimp only at hSw); go_simp; first | done | with_reducible rfl)
  try simp only [List.getElem_toArray, List.getElem_cons_succ, List.getElem_cons_zero, Act.put, List.setIfInBounds_toArray, List.set_cons_zero, List.set_cons_succ]
  refine He.wpE_take (i := 36) (v := ?_) rfl (by kernel_rfl) (by kernel_rfl) (by kernel_rfl) (by kernel_rfl) (by kernel_rfl) (fun _ _ _ h => h) (by rfl) ?_ (by assumption) ?_
  rotate_left
  · (intro w' hSw; (try dsimp only at hSw); go_simp; first | done | with_reducible rfl)
  try simp only [List.getElem_toArray, List.getElem_cons_succ, List.getElem_cons_zero, Act.put, List.setIfInBounds_toArray, List.set_cons_zero, List.set_cons_succ]
  refine He.wpE_one (i := 35) (by kernel_rfl) rfl (by rfl) (fun K hK => ?_)
  go_simp
  (with_reducible refine (CT.out _ HM6.out).mono ?_)
  rintro e w7 ⟨rfl, hm7⟩
  have HM7 := Lib.hid (HM6.out.trans0 hm7)
  have HBX7 := Lib.hid (HBX6.out.mod hm7 (by simp))
  have S7 : w7.cell? ⟨BX, 0, none⟩ = some (.int .i64 base) ∧ w7.cell? ⟨BX, 1, none⟩ = some (.slice va rows.length vc) := HC.out _ HBX7.out
  refine hK.out _ _ (fun _ => S7) ?_
  clear hK K hm7 HM6 HBX6
  try simp only [Act.put, List.setIfInBounds_toArray, List.set_cons_zero, List.set_cons_succ]
  refine He.wpE_one (i := 37) (by kernel_rfl) rfl (by rfl) (fun K hK => ?_)
  go_simp
  (with_reducible refine (CU.out _ HM7.out).mono ?_)
  rintro e w8 ⟨rfl, hm8⟩
  have HM8 := Lib.hid (HM7.out.trans0 hm8)
  have HBX8 := Lib.hid (HBX7.out.mod hm8 (by simp))
  have S8 : w8.cell? ⟨BX, 0, none⟩ = some (.int .i64 base) ∧ w8.cell? ⟨BX, 1, none⟩ = some (.slice va rows.length vc) := HC.out _ HBX8.out
  refine hK.out _ _ (fun _ => S8) ?_
  clear hK K hm8 HM7 HBX7
  try simp only [Act.put, List.setIfInBounds_toArray, List.set_cons_zero, List.set_cons_succ]
  refine He.wpE_take (i := 38) (v := ?_) rfl (by kernel_rfl) (by kernel_rfl) (by kernel_rfl) (by kernel_rfl) (by kernel_rfl) (fun _ _ _ h => h) (by rfl) ?_ (by assumption) ?_
  rotate_left
  · (intro w' hSw; (try dsimp only at hSw); go_simp; first | done | with_reducible rfl)
  try simp only [List.getElem_toArray, List.getElem_cons_succ, List.getElem_cons_zero, Act.put, List.setIfInBounds_toArray, List.set_cons_zero, List.set_cons_succ]
  refine He.wpE_take (i := 39) (v := ?_) rfl (by kernel_rfl) (by kernel_rfl) (by kernel_rfl) (by kernel_rfl) (by kernel_rfl) (fun _ _ _ h => h) (by rfl) ?_ (by assumption) ?_
  rotate_left
  · (intro w' hSw; (try dsimp only at hSw); go_simp; first | done | with_reducible rfl)
  try simp only [List.getElem_toArray, List.getElem_cons_succ, List.getElem_cons_zero, Act.put, List.setIfInBounds_toArray, List.set_cons_zero, List.set_cons_succ]
  refine He.wpE_take (i := 40) (v := ?_) rfl (by kernel_rfl) (by kernel_rfl) (by kernel_rfl) (by kernel_rfl) (by kernel_rfl) (fun _ _ _ h => h) (by rfl) ?_ (by assumption) ?_
  rotate_left
  · (intro w' hSw; (try dsimp only at hSw); go_simp; first | done | with_reducible rfl)
  try simp only [List.getElem_toArray, List.getElem_cons_succ, List.getElem_cons_zero, Act.put, List.setIfInBounds_toArray, List.set_cons_zero, List.set_cons_succ]
  refine He.wpE_done (by kernel_rfl) ?_
  go_wp2_with fail
  go_ret
  exact ⟨rfl, HM8.out⟩
end Go.Proofs.Ytceocpohdckkoaa.Bx
