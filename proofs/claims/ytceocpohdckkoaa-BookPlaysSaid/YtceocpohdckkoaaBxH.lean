/- Books: the reference's rows in memory, num, Text. -/
import Derived.Test.YtceocpohdckkoaaBxG
import Derived.Test.YtceocpohdckkoaaBits2
namespace Go.Proofs.Ytceocpohdckkoaa.Bx
open Go.RowKit Mem Bits
set_option linter.unusedSimpArgs false
set_option linter.unusedVariables false
set_option maxRecDepth 100000

abbrev tR : TypeId := 26
/-- A row of numbers that the reference has: below N, or a block of numbers. -/
def IntsQ (N : Nat) (A : World) (u : Value) (xs : List Int) : Prop :=
  (xs = [] ∧ ∃ ad cap, u = .slice ad 0 cap) ∨ ∃ b off cap, u = .slice (some ⟨b, off, none⟩) xs.length cap ∧ xs.length ≤ cap ∧ (b < N ∨ ∃ cs, Blk A b cs tI) ∧ ∀ i, i < xs.length → A.cell? ⟨b, off + i, none⟩ = some (iv (gi xs i))
theorem IntsQ.r {N : Nat} {A : World} {u : Value} {xs : List Int} (h : IntsQ N A u xs) : IntsR A u xs := by
  rcases h with h | ⟨b, off, cap, h1, h2, _, h3⟩
  · exact .inl h
  · exact .inr ⟨b, off, cap, h1, h2, h3⟩
theorem IntsQ.kept {N : Nat} {A B : World} {u : Value} {xs : List Int} (h : IntsQ N A u xs) (k : Kept A B) : IntsQ N B u xs := by
  rcases h with h | ⟨b, off, cap, h1, h2, h3, h4⟩
  · exact .inl h
  · exact .inr ⟨b, off, cap, h1, h2, h3.imp id (fun ⟨cs, hb⟩ => ⟨cs, k.blk hb⟩), fun i hi => k.cell (h4 i hi)⟩
theorem IntsQ.slice {N : Nat} {A : World} {u : Value} {xs : List Int} (h : IntsQ N A u xs) : ∃ a c, u = .slice a xs.length c := by
  rcases h with ⟨rfl, a, c, h⟩ | ⟨b, off, cap, h, _⟩ <;> exact ⟨_, _, h⟩
/-- The reference's matches. -/
def RrAt (N : Nat) (A : World) (v : Value) (rows : List (List Int)) : Prop :=
  ∃ ad cap us, v = .slice ad rows.length cap ∧ rows.length ≤ cap ∧ All2 (IntsQ N A) us rows ∧ (rows = [] ∨ ∃ b off cs, ad = some ⟨b, off, none⟩ ∧ Blk A b cs tR ∧ ∀ i (h : i < us.length), A.cell? ⟨b, off + i, none⟩ = some us[i])
theorem RrAt.kept {N : Nat} {A B : World} {v : Value} {rows : List (List Int)} (h : RrAt N A v rows) (k : Kept A B) : RrAt N B v rows := by
  obtain ⟨ad, cap, us, h1, h2, h3, h4⟩ := h
  exact ⟨ad, cap, us, h1, h2, all2_mono (fun _ _ h => h.kept k) h3, h4.imp id (fun ⟨b, off, cs, q1, q2, q3⟩ => ⟨b, off, cs, q1, k.blk q2, fun i hi => k.cell (q3 i hi)⟩)⟩
theorem RrAt.mod {N : Nat} {A B : World} {v : Value} {rows : List (List Int)} (h : RrAt N A v rows) (m : Mod A B []) : RrAt N B v rows := h.kept (.mod m)
theorem RrAt.nil (N : Nat) (A : World) : RrAt N A (.slice none 0 0) [] := ⟨none, 0, [], rfl, Nat.le_refl _, .nil, .inl rfl⟩
theorem RrAt.slice {N : Nat} {A : World} {v : Value} {rows : List (List Int)} (h : RrAt N A v rows) : ∃ a c, v = .slice a rows.length c ∧ rows.length ≤ c := by
  obtain ⟨ad, cap, us, h1, h2, _⟩ := h
  exact ⟨_, _, h1, h2⟩
/-- One row of it. -/
theorem RrAt.get {N : Nat} {A : World} {v : Value} {rows : List (List Int)} (h : RrAt N A v rows) {i : Nat} (hi : i < rows.length) : ∃ b off cap u, v = .slice (some ⟨b, off, none⟩) rows.length cap ∧ A.cell? ⟨b, off + i, none⟩ = some u ∧ IntsQ N A u rows[i] := by
  obtain ⟨ad, cap, us, h1, h2, h3, h4⟩ := h
  obtain ⟨b, off, cs, q1, q2, q3⟩ := h4.resolve_left (fun e => by rw [e] at hi; simp at hi)
  subst q1
  have hl := all2_len h3
  exact ⟨b, off, cap, us[i]'(by omega), h1, q3 i (by omega), all2_get h3 i (by omega) hi⟩
theorem RrAt.own {N base : Nat} {A : World} {v : Value} {us : List Value} {rows : List (List Int)} (ho : A.ownsRow base tR 1 v us.length us) (hr : All2 (IntsQ N A) us rows) : RrAt N A v rows := by
  have hl := all2_len hr
  rcases own_cell ho with ⟨h1, h2, _⟩ | ⟨g, cap, h1, _, h2, _, _, h4⟩
  · have : rows = [] := List.eq_nil_of_length_eq_zero (by omega)
    subst this
    exact ⟨none, 0, us, h1, Nat.le_refl _, hr, .inl rfl⟩
  · obtain ⟨cur, hb⟩ := own_blk ho g (by rw [h1]; rfl)
    exact ⟨_, cap, us, by rw [h1, hl], by omega, hr, .inr ⟨g, 0, cur, rfl, hb, fun i hi => by rw [Nat.zero_add]; exact h4 i hi⟩⟩

theorem rnum_calls (x : Int) (hx : 0 ≤ x ∧ x ≤ 9223372036854775807) (w : World) : Calls Try.prog 58 #[.int .i64 x] w fun e w' => e = .returned (.string (numI x)) ∧ Mod w w' [] := by
  have NC := Lib.hid (show Calls Try.prog 75 #[.int .u64 x] w fun e w' => e = .returned (.string (numI x)) ∧ Mod w w' [] by
    have h := refnum_calls x.toNat (by omega) w
    rw [Int.toNat_of_nonneg hx.1] at h
    exact h)
  have hw := IntWalk.u64_in x (by omega)
  go_enter Try.func58, Try.ntmps58
  go_wp2_with fail
  (with_reducible refine NC.out.mono ?_)
  rintro e w1 ⟨rfl, hm1⟩
  go_wp2_with fail
  go_ret
  exact ⟨rfl, hm1⟩

set_option maxHeartbeats 4000000 in
theorem rtext_calls {w : World} {N : Nat} (base : Int) (v : Value) (rows : List (List Int)) (h : RrAt N w v rows) (hb0 : 0 ≤ base) (hb1 : base ≤ 549755813888) (hl : rows.length ≤ 64) (hr16 : ∀ r ∈ rows, r.length ≤ 16 ∧ ∀ x ∈ r, 0 ≤ x ∧ x ≤ 9223372036854775807) :
    Calls Try.prog 29 #[.agg #[.int .i64 base, v]] w fun e w' => e = .returned (.string (txt base rows)) ∧ Mod w w' [] := by
  obtain ⟨va, vc, hv, hvc⟩ := h.slice
  subst hv
  have H := Lib.hid h
  have HR := Lib.hid hr16
  have HM0 := Lib.hid ((Mod.refl w []).alloc (.cells #[.int .i64 base, .slice va rows.length vc] 57))
  have HB0 := Lib.hid (Blk.new w #[.int .i64 base, .slice va rows.length vc] 57)
  have NC := Lib.hid rnum_calls
  have HE : Hid (numI base ++ numI (rows.length : Int) = rowsT (headT base rows.length) (rows.take 0)) := Lib.hid rfl
  have HD : Hid (rowsT (headT base rows.length) (rows.take rows.length) = txt base rows) := Lib.hid (by rw [List.take_length]; rfl)
  have hlr : (rows.length : Int) ≤ 64 := by omega
  have hvc' : (rows.length : Int) ≤ vc := by omega
  have h91 := (numI_size base).2
  have h92 := (numI_size (rows.length : Int)).2
  have hcc : ¬ 9223372036854775807 < (numI base).size + (numI (rows.length : Int)).size := by omega
  clear h hr16
  go_enter Try.func29, Try.ntmps29
  go_wp2_with fail
  generalize w.alloc _ = W at *
  refine He.wp_region_e 8 (fun w' => w'.cell? ⟨w.heap.size, 0, none⟩ = some (.int .i64 base) ∧ w'.cell? ⟨w.heap.size, 1, none⟩ = some (.slice va rows.length vc)) (by kernel_rfl) ⟨HB0.out.cell 0, HB0.out.cell 1⟩ (fun S0 => ?_)
  have HBd := Lib.hid (show Blk W.drew w.heap.size #[.int .i64 base, .slice va rows.length vc] 57 from HB0.out)
  have HMd := Lib.hid HM0.out.drew
  generalize W.drew = wd at *
  refine He.wpE_take (i := 0) (v := ?_) rfl (by kernel_rfl) (by kernel_rfl) (by kernel_rfl) (by kernel_rfl) (by kernel_rfl) (fun _ _ _ h => h) (by rfl) ?_ (by assumption) ?_
  rotate_left
  · (intro w' hSw; (try dsimp only at hSw); go_simp; first | done | with_reducible rfl)
  try simp only [List.getElem_toArray, List.getElem_cons_succ, List.getElem_cons_zero, Act.put, List.setIfInBounds_toArray, List.set_cons_zero, List.set_cons_succ]
  refine He.wpE_take (i := 1) (v := ?_) rfl (by kernel_rfl) (by kernel_rfl) (by kernel_rfl) (by kernel_rfl) (by kernel_rfl) (fun _ _ _ h => h) (by rfl) ?_ (by assumption) ?_
  rotate_left
  · (intro w' hSw; (try dsimp only at hSw); go_simp; first | done | with_reducible rfl)
  try simp only [List.getElem_toArray, List.getElem_cons_succ, List.getElem_cons_zero, Act.put, List.setIfInBounds_toArray, List.set_cons_zero, List.set_cons_succ]
  refine He.wpE_take (i := 3) (v := ?_) rfl (by kernel_rfl) (by kernel_rfl) (by kernel_rfl) (by kernel_rfl) (by kernel_rfl) (fun _ _ _ h => h) (by rfl) ?_ (by assumption) ?_
  rotate_left
  · (intro w' hSw; (try dsimp only at hSw); go_simp; first | done | with_reducible rfl)
  try simp only [List.getElem_toArray, List.getElem_cons_succ, List.getElem_cons_zero, Act.put, List.setIfInBounds_toArray, List.set_cons_zero, List.set_cons_succ]
  refine He.wpE_take (i := 4) (v := ?_) rfl (by kernel_rfl) (by kernel_rfl) (by kernel_rfl) (by kernel_rfl) (by kernel_rfl) (fun _ _ _ h => h) (by rfl) ?_ (by assumption) ?_
  rotate_left
  · (intro w' hSw; (try dsimp only at hSw); go_simp; first | done | with_reducible rfl)
  try simp only [List.getElem_toArray, List.getElem_cons_succ, List.getElem_cons_zero, Act.put, List.setIfInBounds_toArray, List.set_cons_zero, List.set_cons_succ]
  refine He.wpE_take (i := 5) (v := ?_) rfl (by kernel_rfl) (by kernel_rfl) (by kernel_rfl) (by kernel_rfl) (by kernel_rfl) (fun _ _ _ h => h) (by rfl) ?_ (by assumption) ?_
  rotate_left
  · (intro w' hSw; (try dsimp only at hSw); go_simp; first | done | with_reducible rfl)
  try simp only [List.getElem_toArray, List.getElem_cons_succ, List.getElem_cons_zero, Act.put, List.setIfInBounds_toArray, List.set_cons_zero, List.set_cons_succ]
  refine He.wpE_one (i := 2) (by kernel_rfl) rfl (by rfl) (fun K hK => ?_)
  go_simp
  (with_reducible refine (NC.out base ⟨hb0, by omega⟩ _).mono ?_)
  rintro e w1 ⟨rfl, hm1⟩
  have HB1 := Lib.hid (HBd.out.mod hm1 (by simp))
  have HM1 := Lib.hid (HMd.out.trans0 hm1)
  have S1 : w1.cell? ⟨w.heap.size, 0, none⟩ = some (.int .i64 base) ∧ w1.cell? ⟨w.heap.size, 1, none⟩ = some (.slice va rows.length vc) := ⟨HB1.out.cell 0, HB1.out.cell 1⟩
  clear hm1 HBd HMd S0
  refine hK.out _ _ (fun _ => S1) ?_
  clear hK K
  try simp only [Act.put, List.setIfInBounds_toArray, List.set_cons_zero, List.set_cons_succ]
  refine He.wpE_one (i := 6) (by kernel_rfl) rfl (by rfl) (fun K hK => ?_)
  go_simp
  (with_reducible refine (NC.out (rows.length : Int) ⟨by omega, by omega⟩ _).mono ?_)
  rintro e w2 ⟨rfl, hm2⟩
  have HB2 := Lib.hid (HB1.out.mod hm2 (by simp))
  have HM2 := Lib.hid (HM1.out.trans0 hm2)
  have S2 : w2.cell? ⟨w.heap.size, 0, none⟩ = some (.int .i64 base) ∧ w2.cell? ⟨w.heap.size, 1, none⟩ = some (.slice va rows.length vc) := ⟨HB2.out.cell 0, HB2.out.cell 1⟩
  clear hm2 HB1 HM1 S1
  refine hK.out _ _ (fun _ => S2) ?_
  clear hK K
  try simp only [Act.put, List.setIfInBounds_toArray, List.set_cons_zero, List.set_cons_succ]
  refine He.wpE_one (i := 7) (by kernel_rfl) rfl (by rfl) (fun K hK => ?_)
  go_simp
  refine hK.out _ _ (fun _ => S2) ?_
  clear hK K
  try simp only [Act.put, List.setIfInBounds_toArray, List.set_cons_zero, List.set_cons_succ]
  refine He.wpE_one (i := 8) (by kernel_rfl) rfl (by rfl) (fun K hK => ?_)
  go_simp
  refine hK.out _ _ (fun _ => S2) ?_
  clear hK K
  refine He.wpE_done (by kernel_rfl) ?_
  try simp only [Act.put, List.setIfInBounds_toArray, List.set_cons_zero, List.set_cons_succ]
  rw [HE.out]
  clear hcc h91 h92
  have HSZ : Hid (∀ k, k ≤ rows.length → (rowsT (headT base rows.length) (rows.take k)).size ≤ 18 + 153 * 64) := Lib.hid (fun k hk => by
    have h1 := (rowsT_size (headT base rows.length) (rows.take k) (fun r hr => (HR.out r (List.mem_of_mem_take hr)).1)).2
    have h2 := headT_size base rows.length
    rw [List.length_take] at h1
    omega)
  go_wp2_with fail
  go_loopw [3, 4] (fun vs vi wr => ∃ i : Nat, i ≤ rows.length ∧ vi = .int .i64 (i : Int) ∧ vs = .string (rowsT (headT base rows.length) (rows.take i)) ∧ Blk wr w.heap.size #[.int .i64 base, .slice va rows.length vc] 57 ∧ Mod w wr []) (fun _ vi _ => rows.length + 1 - (intOf vi).toNat)
  case atStart => exact ⟨0, Nat.zero_le _, rfl, rfl, HB2.out, HM2.out⟩
  case round =>
    obtain ⟨i, hi, rfl, rfl, hb, hm⟩ := hrel
    obtain ⟨wo, rfl⟩ : ∃ wo, wo = wr := ⟨_, rfl⟩
    have HB := Lib.hid hb
    have HM := Lib.hid hm
    have b1 := hb.cell 1
    clear hb hm HB2 HM2 S2
    by_cases hlt : i < rows.length
    · have hlt' : (i : Int) < rows.length := by omega
      obtain ⟨rb, roff, rcap, u, hv2, hcu, hq⟩ := (H.out.mod HM.out).get hlt
      injection hv2 with e1 _ e3
      subst e1 e3
      have hrow := HR.out _ (List.getElem_mem hlt)
      have HS := Lib.hid (show rowsT (headT base rows.length) (rows.take (i + 1)) = putL (rowsT (headT base rows.length) (rows.take i) ++ numI ((rows[i]'hlt).length : Int)) (rows[i]'hlt) by
        rw [List.take_succ_eq_append_getElem hlt, rowsT_snoc]; rfl)
      have hsz := HSZ.out i (by omega)
      obtain ⟨row, hrw⟩ : ∃ row, (rows[i]'hlt) = row := ⟨_, rfl⟩
      rw [hrw] at hq hrow HS
      obtain ⟨ua, uc, hu⟩ := hq.slice
      subst hu
      have HQ := Lib.hid hq
      have HRV := Lib.hid hrow.2
      have hr16 := hrow.1
      have hrl : (row.length : Int) ≤ 16 := by omega
      generalize rowsT (headT base rows.length) (rows.take i) = s0 at *
      have h92 := (numI_size (row.length : Int)).2
      have hcc : ¬ 9223372036854775807 < s0.size + (numI (row.length : Int)).size := by omega
      clear hrow hq hrw
      go_wp2_with fail
      (with_reducible refine (NC.out (row.length : Int) ⟨by omega, by omega⟩ _).mono ?_)
      rintro e w3 ⟨rfl, hm3⟩
      have HB3 := Lib.hid (HB.out.mod hm3 (by simp))
      have HM3 := Lib.hid (HM.out.trans0 hm3)
      have HMo := Lib.hid hm3
      clear hm3
      go_wp2_with fail
      have hs1 : (s0 ++ numI (row.length : Int)).size ≤ 18 + 153 * 64 + 9 := by rw [ByteArray.size_append]; omega
      have HS1 : Hid (s0 ++ numI (row.length : Int) = putL (s0 ++ numI (row.length : Int)) (row.take 0)) := Lib.hid rfl
      generalize s0 ++ numI (row.length : Int) = s1 at *
      clear hcc b1
      go_loopw [3, 5] (fun vs vk wr => ∃ k : Nat, k ≤ row.length ∧ vk = .int .i64 (k : Int) ∧ vs = .string (putL s1 (row.take k)) ∧ Mod wo wr []) (fun _ vk _ => row.length + 1 - (intOf vk).toNat)
      case atStart => exact ⟨0, Nat.zero_le _, rfl, rfl, HMo.out⟩
      case round =>
        obtain ⟨k, hk, rfl, rfl, hmi⟩ := hrel
        have HMI := Lib.hid hmi
        have b1 := (HB.out.mod hmi (by simp)).cell 1
        have hcu2 := (Kept.mod hmi).cell hcu
        clear hmi HMo HB3 HM3
        by_cases hkl : k < row.length
        · have hkl' : (k : Int) < row.length := by omega
          obtain ⟨ub, uo, uc', hu2, huc, _, hcl⟩ := (HQ.out.kept (Kept.mod HMI.out)).resolve_left (fun h => by rw [h.1] at hkl; simp at hkl)
          injection hu2 with e1 _ e3
          subst e1 e3
          have hck := hcl k hkl
          have hv := HRV.out _ (List.getElem_mem hkl)
          rw [gi_eq hkl] at hv
          have hps := putL_size s1 (row.take k)
          have htk : (row.take k).length = k := by rw [List.length_take]; omega
          have HN := Lib.hid (show putL s1 (row.take (k + 1)) = putL s1 (row.take k) ++ numI (gi row k) by
            rw [List.take_succ_eq_append_getElem hkl, putL_snoc, gi_eq hkl])
          have h93 := (numI_size (gi row k)).2
          have huc' : (row.length : Int) ≤ uc := by omega
          have hcc : ¬ 9223372036854775807 < (putL s1 (row.take k)).size + (numI (gi row k)).size := by omega
          clear hcl hps htk
          generalize gi row k = xk at *
          go_wp2_with fail
          (with_reducible refine (NC.out xk hv _).mono ?_)
          rintro e w4 ⟨rfl, hm4⟩
          have HM4 := Lib.hid (HMI.out.trans0 hm4)
          clear hm4
          go_wp2_with fail
          go_roundw
          case rel => exact ⟨k + 1, by omega, by go_num, by rw [HN.out], HM4.out⟩
          case measure => simp [intOf]; omega
        · have hkl' : (row.length : Int) ≤ k := by omega
          go_wp2_with fail
          go_roundw
          case rel =>
            (repeat apply Exists.intro)
            refine ⟨?rel2, rfl⟩
            case rel2 => exact ⟨i + 1, by omega, by go_num, by rw [HS.out, List.take_of_length_le (by omega)], HB.out.mod HMI.out (by simp), HM.out.trans0 HMI.out⟩
          case measure => simp [intOf]; omega
    · obtain rfl : i = rows.length := by omega
      have hge : (rows.length : Int) ≤ rows.length := by omega
      rw [HD.out]
      go_wp2_with fail
      go_ret
      exact ⟨rfl, HM.out⟩
end Go.Proofs.Ytceocpohdckkoaa.Bx
