/- Books: Load. -/
import Derived.Test.YtceocpohdckkoaaBxF
namespace Go.Proofs.Ytceocpohdckkoaa.Bx
open Go.RowKit Mem Bits
set_option linter.unusedSimpArgs false
set_option linter.unusedVariables false
set_option maxRecDepth 100000

abbrev tT : TypeId := 144
theorem tape_kept {A B : World} {g : Nat} {t : Tp} (h : TpAt A g t) (m : Mod A B [g]) : KeptT (fun ty => ty ≠ tT) A B := fun k cs ty hb ht => hb.mod m (by
  have := blk_ne hb h ht
  simpa using this)
theorem bookTs_tape (ty : TypeId) (h : bookTs ty) : ty ≠ tT := by
  rcases h with rfl | rfl | rfl | rfl <;> decide
theorem mod_in {w A B : World} {g : Nat} (h : Mod w A []) (m : Mod A B [g]) (hg : w.heap.size ≤ g) : Mod w B [] := h.trans m (by simpa using hg)

/-- Load's worlds. -/
structure LdC (w : World) (gt gb : Nat) (base : Int) (l : List (List Int)) (u : Tp) (W : World) : Prop where
  md : Mod w W []
  tp : TpAt W gt u
  bk : BookAt W w.heap.size (fun _ => False) gb base l
theorem LdC.mod {w : World} {gt gb : Nat} {base : Int} {l : List (List Int)} {u : Tp} {A B : World} (h : LdC w gt gb base l u A) (m : Mod A B []) : LdC w gt gb base l u B := ⟨h.md.trans0 m, h.tp.mod m (by simp), h.bk.mod m⟩
theorem LdC.num {w : World} {gt gb : Nat} {base : Int} {l : List (List Int)} {u v : Tp} {A B : World} (h : LdC w gt gb base l u A) (hg : w.heap.size ≤ gt) (m : Mod A B [gt]) (ht : TpAt B gt v) : LdC w gt gb base l v B :=
  ⟨mod_in h.md m hg, ht, h.bk.keptT bookTs_tape (tape_kept h.tp m)⟩

/-- Load's inner loop: some numbers are read. -/
structure LdI (w Wm : World) (gt : Nat) (u1 : Tp) (j : Nat) (v : Value) (W : World) : Prop where
  md : Mod Wm W [gt]
  tp : TpAt W gt (rdL 549755813888 j u1).2
  mb : Blk W Wm.heap.size #[v] tM
  own : W.ownsRow (Wm.heap.size + 1) tI 1 v j ((rdL 549755813888 j u1).1.map iv)
theorem rdL_size (most : Nat) : ∀ k t, (rdL most k t).2.s.size ≤ t.s.size
  | 0, _ => Nat.le_refl _
  | k + 1, t => Nat.le_trans (Tp.next_size _) (rdL_size most k t)

set_option maxHeartbeats 4000000 in
/-- One number more is appended to the match. -/
theorem cell_loop_facts {w Wm : World} {gt : Nat} {u1 : Tp} {j : Nat} {v : Value} {W : World} (h : LdI w Wm gt u1 j v W) : ∃ a c, v = .slice a j c := Rw.own_slice h.own

theorem ints_own {W : World} {base : Nat} {v : Value} {xs : List Int} (h : W.ownsRow base tI 1 v xs.length (xs.map iv)) : IntsR W v xs := by
  rcases own_cell h with ⟨h1, h2, _⟩ | ⟨g, cap, h1, _, h2, _, h3, h4⟩
  · exact .inl ⟨List.eq_nil_of_length_eq_zero h2, none, 0, h1⟩
  · refine .inr ⟨g, 0, cap, h1, h2, fun i hi => ?_⟩
    rw [Nat.zero_add, h4 i (by simpa using hi), List.getElem_map, gi_eq hi]
theorem row_own {W : World} {base : Nat} {v : Value} {xs : List Int} (hne : xs ≠ []) (h : W.ownsRow base tI 1 v xs.length (xs.map iv)) : RowAt W (fun _ => False) v xs := by
  rcases own_cell h with ⟨_, h2, _⟩ | ⟨g, cap, h1, _⟩
  · exact absurd (List.eq_nil_of_length_eq_zero h2) hne
  · exact ⟨g, cap, h1, fun h => h, hne, h.1, h.2.imp id (fun ⟨g, c, cur, q1, q2, q3⟩ => ⟨g, c, cur, q1, Nat.zero_le _, q3⟩)⟩
theorem mayB_ne {xs : List Int} (h : mayB xs = true) : xs ≠ [] := by
  rintro rfl
  simp [mayB] at h
/-- What Load answers. -/
def LoadP (w : World) (R : Option (Int × List (List Int))) (e : Ending) (w' : World) : Prop := Mod w w' [] ∧ match R with
  | none => e = .returned (.tuple #[.pointer none, .int .i64 3])
  | some (b, l) => ∃ g, e = .returned (.tuple #[ptr g, .int .i64 0]) ∧ BookAt w' w.heap.size (fun _ => False) g b l

set_option maxHeartbeats 8000000 in
theorem load_calls (s : ByteArray) (w : World) (hs : s.size ≤ 9007199254740992) :
    Calls Try.prog 28 #[.string s] w (LoadP w (loadD s)) := by
  have AC := Lib.hid (at_calls s w)
  obtain ⟨t0, ht0⟩ : ∃ t0 : Tp, t0 = ⟨s, 0⟩ := ⟨_, rfl⟩
  have HT0 := Lib.hid ht0
  have hz0 : t0.s.size ≤ 9007199254740992 := by rw [ht0]; exact hs
  have hz1 := Nat.le_trans t0.next_size hz0
  have hz2 := Nat.le_trans t0.next.next_size hz1
  clear ht0
  go_enter Try.func28, Try.ntmps28
  go_wp2_with fail
  (with_reducible refine AC.out.mono ?_)
  rintro e w1 ⟨rfl, hm1, ht1⟩
  have HM1 := Lib.hid hm1
  have HT1 : Hid (TpAt w1 w.heap.size t0) := Lib.hid (by rw [HT0.out]; exact ht1)
  clear hm1 ht1 AC
  have NC := Lib.hid (number_calls w.heap.size t0 549755813888 w1 hz0 (by omega) HT1.out)
  rw [show ((549755813888 : Nat) : Int) = 549755813888 from rfl] at NC
  go_wp2_with fail
  (with_reducible refine NC.out.mono ?_)
  rintro e w2 ⟨rfl, hm2, ht2⟩
  have HM2 := Lib.hid (mod_in HM1.out hm2 (Nat.le_refl _))
  have HT2 := Lib.hid ht2
  clear hm2 ht2 NC HT1 HM1
  obtain ⟨base, hbase⟩ : ∃ base, capN 549755813888 t0.n = base := ⟨_, rfl⟩
  have HBASE := Lib.hid hbase
  have hbl := capN_lo 549755813888 t0.n
  have hbh := capN_hi 549755813888 t0.n
  rw [hbase] at hbl hbh ⊢
  clear hbase
  go_wp2_with fail
  have HC3 : Hid (LdC w w.heap.size w2.heap.size base [] t0.next (w2.alloc (.cells #[.int .i64 base, .slice none 0 0] 87))) := Lib.hid
    ⟨HM2.out.alloc _, HT2.out.mod ((Mod.refl w2 []).alloc _) (by simp), by have := HM2.out.size; omega, .slice none 0 0, [], Blk.new _ _ _, .inl (World.ownsRow_nil _ _ _ _), .nil⟩
  have hgb : w.heap.size < w2.heap.size := HT2.out.lt
  generalize hgbe : w2.heap.size = gb at *
  generalize w2.alloc _ = w3 at *
  clear HM2 HT2 hgbe
  have NC := Lib.hid (number_calls w.heap.size t0.next 64 w3 hz1 (by omega) HC3.out.tp)
  rw [show ((64 : Nat) : Int) = 64 from rfl] at NC
  (with_reducible refine NC.out.mono ?_)
  rintro e w4 ⟨rfl, hm4, ht4⟩
  have HC4 := Lib.hid (HC3.out.num (Nat.le_refl _) hm4 ht4)
  clear hm4 ht4 NC HC3
  obtain ⟨n, hn⟩ : ∃ n, capN 64 t0.next.n = n := ⟨_, rfl⟩
  have HN := Lib.hid hn
  have hnl := capN_lo 64 t0.next.n
  have hnh := capN_hi 64 t0.next.n
  rw [hn] at hnl hnh ⊢
  clear hn
  obtain ⟨t2, ht2⟩ : ∃ t2, t0.next.next = t2 := ⟨_, rfl⟩
  have HT2 := Lib.hid ht2
  rw [ht2] at hz2 HC4
  have HLD : Hid (loadD s = match rowsD n.toNat t2 with
      | none => none
      | some (l, u) => if endE u.s u.e = 0 ∧ 0 ≤ base ∧ 0 ≤ n ∧ base + l.length ≤ 549755813888 then some (base, l) else none) := Lib.hid (by
    unfold loadD
    rw [← HT0.out]
    simp only
    rw [HBASE.out, HN.out, HT2.out]
    rfl)
  generalize loadD s = R at *
  clear ht2
  go_wp2_with fail
  go_loopw [17] (fun vi wr => ∃ (i : Nat) (l : List (List Int)) (u : Tp), vi = .int .i64 (i : Int) ∧ (i : Int) ≤ max n 0 ∧ rowsD i t2 = some (l, u) ∧ u.s.size ≤ 9007199254740992 ∧ LdC w w.heap.size gb base l u wr) (fun vi _ => 65 - (intOf vi).toNat)
  case atStart => exact ⟨0, [], t2, rfl, by omega, rfl, hz2, HC4.out⟩
  case round =>
    obtain ⟨i, l, u, rfl, hin, hrd, hus, hld⟩ := hrel
    have HRD := Lib.hid hrd
    have HL := Lib.hid hld
    clear hrd hld HC4
    by_cases hlt : (i : Int) < n
    · obtain ⟨wo, rfl⟩ : ∃ wo, wo = wr := ⟨_, rfl⟩
      have hi64 : (i : Int) < 64 := by omega
      have HLa := Lib.hid (HL.out.mod ((Mod.refl wo []).alloc (.cells #[.slice none 0 0] 32)))
      have HMB := Lib.hid (Blk.new wo #[.slice none 0 0] 32)
      have hmbt : w.heap.size ≠ wo.heap.size := by have := HL.out.tp.lt; omega
      have NC := Lib.hid (number_calls w.heap.size u 16 (wo.alloc (.cells #[.slice none 0 0] 32)) hus (by omega) HLa.out.tp)
      rw [show ((16 : Nat) : Int) = 16 from rfl] at NC
      go_wp2_with fail
      (with_reducible refine NC.out.mono ?_)
      rintro e w5 ⟨rfl, hm5, ht5⟩
      have HI5 : Hid (LdI w wo w.heap.size u.next 0 (.slice none 0 0) w5) := Lib.hid ⟨(((Mod.refl wo [w.heap.size]).alloc _).trans hm5 (by simp)), ht5, HMB.out.mod hm5 (by simpa using hmbt.symm), World.ownsRow_nil _ _ _ _⟩
      clear hm5 ht5 NC HLa HMB
      have HRW : Hid (rowD u = rdL 549755813888 (capN 16 u.n).toNat u.next) := Lib.hid rfl
      obtain ⟨k, hk⟩ : ∃ k, capN 16 u.n = k := ⟨_, rfl⟩
      have hkl := capN_lo 16 u.n
      have hkh := capN_hi 16 u.n
      rw [hk] at hkl hkh HRW ⊢
      have hus1 := Nat.le_trans u.next_size hus
      clear hk
      obtain ⟨mb, hmb⟩ : ∃ mb, wo.heap.size = mb := ⟨_, rfl⟩
      have HMBE := Lib.hid hmb
      have HLr := HL
      rw [hmb] at hmbt ⊢
      clear hmb
      go_wp2_with fail
      go_loopw [21] (fun vj wj => ∃ (j : Nat) (v : Value), vj = .int .i64 (j : Int) ∧ (j : Int) ≤ max k 0 ∧ LdI w wo w.heap.size u.next j v wj) (fun vj _ => 17 - (intOf vj).toNat)
      case atStart => exact ⟨0, _, rfl, by omega, HI5.out⟩
      case round =>
        obtain ⟨j, v, rfl, hjk, hldi⟩ := hrel
        have HI := Lib.hid hldi
        obtain ⟨va, vc, hva⟩ := cell_loop_facts hldi
        subst hva
        clear hldi HI5
        have hmbb : Hid (Blk wr mb #[.slice va j vc] tM) := Lib.hid (by rw [← HMBE.out]; exact HI.out.mb)
        by_cases hjlt : (j : Int) < k
        · have hj16 : (j : Int) < 16 := by omega
          obtain ⟨u2, hu2⟩ : ∃ u2, (rdL 549755813888 j u.next).2 = u2 := ⟨_, rfl⟩
          have hus2 : u2.s.size ≤ 9007199254740992 := by rw [← hu2]; exact Nat.le_trans (rdL_size _ _ _) hus1
          have HU2 := Lib.hid hu2
          have HTP : Hid (TpAt wr w.heap.size u2) := Lib.hid (by rw [← hu2]; exact HI.out.tp)
          clear hu2
          have c7 := hmbb.out.cell 0
          obtain ⟨i0, hi0, hz0, hz1, hz2⟩ := info_parts info_int
          go_wp2_with fail
          refine He.wp_region_e 7 (fun w' => w'.cell? ⟨mb, 0, none⟩ = some (.slice va j vc)) (by kernel_rfl) c7 (fun S0 => ?_)
          have HTd := Lib.hid (show TpAt wr.drew w.heap.size u2 from HTP.out)
          have HBd := Lib.hid (show Blk wr.drew mb #[.slice va j vc] tM from hmbb.out)
          have HMd := Lib.hid (HI.out.md.drew)
          have HOd := Lib.hid (own_mod HI.out.own ((Mod.refl wr []).drew) (by simp))
          generalize wr.drew = wd at *
          clear c7 HTP hmbb HI
          refine He.wpE_take (i := 0) (v := ?_) rfl (by kernel_rfl) (by kernel_rfl) (by kernel_rfl) (by kernel_rfl) (by kernel_rfl) (fun _ _ _ h => h) (by rfl) ?_ (by assumption) ?_
          rotate_left
          · (intro w' hSw; (try dsimp only at hSw); go_simp; first | done | with_reducible rfl)
          try simp only [List.getElem_toArray, List.getElem_cons_succ, List.getElem_cons_zero, Act.put, List.setIfInBounds_toArray, List.set_cons_zero, List.set_cons_succ]
          refine He.wpE_take (i := 1) (v := ?_) rfl (by kernel_rfl) (by kernel_rfl) (by kernel_rfl) (by kernel_rfl) (by kernel_rfl) (fun _ _ _ h => h) (by rfl) ?_ (by assumption) ?_
          rotate_left
          · (intro w' hSw; (try dsimp only at hSw); go_simp; first | done | with_reducible rfl)
          try simp only [List.getElem_toArray, List.getElem_cons_succ, List.getElem_cons_zero, Act.put, List.setIfInBounds_toArray, List.set_cons_zero, List.set_cons_succ]
          refine He.wpE_take (i := 2) (v := ?_) rfl (by kernel_rfl) (by kernel_rfl) (by kernel_rfl) (by kernel_rfl) (by kernel_rfl) (fun _ _ _ h => h) (by rfl) ?_ (by assumption) ?_
          rotate_left
          · (intro w' hSw; (try dsimp only at hSw); go_simp; first | done | with_reducible rfl)
          try simp only [List.getElem_toArray, List.getElem_cons_succ, List.getElem_cons_zero, Act.put, List.setIfInBounds_toArray, List.set_cons_zero, List.set_cons_succ]
          have NC := Lib.hid (number_calls w.heap.size u2 549755813888 wd hus2 (by omega) HTd.out)
          rw [show ((549755813888 : Nat) : Int) = 549755813888 from rfl] at NC
          refine He.wpE_one (i := 3) (by kernel_rfl) rfl (by rfl) (fun K hK => ?_)
          go_simp
          (with_reducible refine NC.out.mono ?_)
          rintro e w6 ⟨rfl, hm6, ht6⟩
          have HB6 := Lib.hid (HBd.out.mod hm6 (by simpa using hmbt.symm))
          have HT6 := Lib.hid ht6
          have hz6' : mb < w6.heap.size := HB6.out.lt
          have HM6 := Lib.hid (HMd.out.trans hm6 (by simp))
          have HO6 := Lib.hid ((tape_kept HTd.out hm6).own (by decide) HOd.out)
          have S6 := HB6.out.cell 0
          clear hm6 ht6 NC HBd HTd HMd HOd
          refine hK.out _ _ (fun _ => S6) ?_
          clear hK K S0
          try simp only [Act.put, List.setIfInBounds_toArray, List.set_cons_zero, List.set_cons_succ]
          obtain ⟨x, hx⟩ : ∃ x, capN 549755813888 u2.n = x := ⟨_, rfl⟩
          have HX := Lib.hid hx
          rw [hx]
          clear hx
          refine He.wpE_one (i := 4) (by kernel_rfl) rfl (by rfl) (fun K hK => ?_)
          go_simp
          have HB7 := Lib.hid (HB6.out.alloc (.cells #[.int .i64 x] 3))
          have HT7 := Lib.hid (Blk.alloc HT6.out (.cells #[.int .i64 x] 3))
          have HM7 := Lib.hid (HM6.out.alloc (.cells #[.int .i64 x] 3))
          have HO7 := Lib.hid (HO6.out.alloc (.cells #[.int .i64 x] 3))
          have HN7 := Lib.hid (Blk.new w6 #[.int .i64 x] 3)
          have S7 := HB7.out.cell 0
          refine hK.out _ _ (fun _ => S7) ?_
          clear hK K S6 HB6 HT6 HM6 HO6
          try simp only [Act.put, List.setIfInBounds_toArray, List.set_cons_zero, List.set_cons_succ]
          have hz6 : mb < w6.heap.size := hz6'
          refine He.wpE_one (i := 5) (by kernel_rfl) rfl (by rfl) (fun K hK => ?_)
          refine wp_append_own _ _ _ 26 (by rfl) (wo.heap.size + 1) 3 i0 _ 1 8 Try.underlying26 hi0 hz0 hz1 hz2 rfl (by decide) (.slice va j vc) j _ (by rfl) HO7.out ⟨w6.heap.size, 0, none⟩ 1 1 [.int .i64 x] (by rfl) rfl (cell_one_new _ _ _) (by simp [Value.oneCell']) (by unfold maxLen; omega) (by omega) (by have := HMBE.out; simp; omega) ?_
          intro v8 w8 hown8 hg8 _
          obtain ⟨a8, c8, rfl⟩ := Rw.own_slice hown8
          have hrow8 : ∀ q, Value.ownBlock (.slice va j vc) = some q → mb < q := fun q hq => by have := own_ge HO7.out q hq; have := HMBE.out; omega
          have HB8 := Lib.hid (Rw.blk_grown HB7.out hg8 (fun e => by have := hrow8 _ e.symm; omega))
          have HT8 := Lib.hid (Rw.blk_grown HT7.out hg8 (fun e => by obtain ⟨cur, hb⟩ := own_blk HO7.out _ e.symm; exact blk_ne hb HT7.out (by decide) rfl))
          have HM8 := Lib.hid (HM7.out.grown hg8 (fun q hq => .inr (by have := hrow8 q hq; have := HMBE.out; omega)))
          have HO8 := Lib.hid hown8
          have S8 := HB8.out.cell 0
          clear hown8 hg8 HB7 HT7 HM7 HO7 HN7 S7
          refine hK.out _ _ (fun _ => S8) ?_
          clear hK K
          try simp only [Act.put, List.setIfInBounds_toArray, List.set_cons_zero, List.set_cons_succ]
          refine He.wpE_take (i := 6) (v := ?_) rfl (by kernel_rfl) (by kernel_rfl) (by kernel_rfl) (by kernel_rfl) (by kernel_rfl) (fun _ _ _ h => h) (by rfl) ?_ (by assumption) ?_
          rotate_left
          · (intro w' hSw; (try dsimp only at hSw); go_simp; first | done | with_reducible rfl)
          try simp only [List.getElem_toArray, List.getElem_cons_succ, List.getElem_cons_zero, Act.put, List.setIfInBounds_toArray, List.set_cons_zero, List.set_cons_succ]
          have f8 := HB8.out.free 0
          refine He.wpE_one (i := 7) (by kernel_rfl) rfl (by rfl) (fun K hK => ?_)
          go_simp
          refine hK.out _ _ (fun h => absurd rfl h) ?_
          clear hK K
          refine He.wpE_done (by kernel_rfl) ?_
          try simp only [Act.put, List.setIfInBounds_toArray, List.set_cons_zero, List.set_cons_succ]
          go_wp2_with fail
          have HSN : Hid (rdL 549755813888 (j + 1) u.next = ((rdL 549755813888 j u.next).1 ++ [x], u2.next)) := Lib.hid (by
            show ((rdL 549755813888 j u.next).1 ++ [capN 549755813888 (rdL 549755813888 j u.next).2.n], (rdL 549755813888 j u.next).2.next) = _
            rw [HU2.out, HX.out])
          go_roundw
          case rel =>
            refine ⟨j + 1, .slice a8 (j + 1) c8, by go_num, by omega, ?_, ?_, ?_, ?_⟩
            · exact HM8.out.setCell (p := ⟨mb, 0, none⟩) (.inr (by have := HMBE.out; show wo.heap.size ≤ mb; omega)) _
            · rw [HSN.out]
              exact HT8.out.far (p := ⟨mb, 0, none⟩) hmbt _
            · rw [HMBE.out]
              exact HB8.out.set 0 _
            · rw [HSN.out, List.map_append]
              exact own_putB HO8.out (fun q hq => by obtain ⟨cur, hb⟩ := own_blk HO8.out q hq; exact blk_ne hb HB8.out (by decide))
          case measure => simp [intOf]; omega
        · have hjge : k ≤ (j : Int) := by omega
          have HJ : Hid (rowD u = rdL 549755813888 j u.next) := Lib.hid (by rw [HRW.out, show k.toNat = j by omega])
          obtain ⟨xs, hxs⟩ : ∃ xs, (rdL 549755813888 j u.next).1 = xs := ⟨_, rfl⟩
          have hxl : xs.length = j := by rw [← hxs]; exact rdL_len _ _ _
          have hj16 : j ≤ 16 := by omega
          have HXS := Lib.hid hxs
          have HOX : Hid (wr.ownsRow (wo.heap.size + 1) tI 1 (.slice va j vc) j (xs.map iv)) := Lib.hid (by rw [← hxs]; exact HI.out.own)
          have HXL := Lib.hid hxl
          have MC := Lib.hid (may_calls xs (.slice va j vc) wr (ints_own (by rw [HXL.out]; exact HOX.out)) (by omega))
          have HMw := Lib.hid (mod_in HL.out.md HI.out.md (Nat.le_refl _))
          have c7 := hmbb.out.cell 0
          clear hxs hxl
          by_cases hmay : mayB xs = true
          · rw [hmay] at MC
            have HRD1 : Hid (rowsD (i + 1) t2 = some (l ++ [xs], (rdL 549755813888 j u.next).2)) := Lib.hid (by
              unfold rowsD
              rw [HRD.out]
              simp only
              rw [HJ.out, HXS.out, if_pos hmay])
            have HBK := Lib.hid (HL.out.bk.keptT bookTs_tape (tape_kept HL.out.tp HI.out.md))
            have HNE := Lib.hid (mayB_ne hmay)
            go_wp2_with fail
            (with_reducible refine MC.out.mono ?_)
            rintro e w9 ⟨rfl, hm9⟩
            have HMw9 := Lib.hid (HMw.out.trans0 hm9)
            have HB9 := Lib.hid (hmbb.out.mod hm9 (by simp))
            have HT9 := Lib.hid (Blk.mod HI.out.tp hm9 (by simp))
            have HO9 := Lib.hid (own_mod HOX.out hm9 (by simp))
            obtain ⟨hNg, lv, us, hb, hla, hrows⟩ := HBK.out.mod hm9
            have HLT : Hid (∀ q, lv.ownBlock = some q → q < mb) := Lib.hid (by
              obtain ⟨_, lv', us', hb', hla', _⟩ := HL.out.bk
              have e : lv' = lv := by
                have h1 := ((Blk.mod hb' HI.out.md (by simpa using blk_ne hb' HL.out.tp (by decide))).mod hm9 (by simp)).cell 1
                have h2 := hb.cell 1
                rw [h1] at h2
                simpa using h2
              intro q hq
              rw [← e] at hq
              have := hla'.lt q hq
              have := HMBE.out
              omega)
            have HBb := Lib.hid hb
            have HLA := Lib.hid hla
            have HROWS := Lib.hid hrows
            have HLN := Lib.hid (all2_len hrows)
            have hll := (rowsD_len HRD.out).1
            have b1 := hb.cell 1
            have b7 := HB9.out.cell 0
            clear hb hla hrows hm9 HMw hmbb HI HOX HBK c7 MC HL
            go_wp2_with fail
            refine He.wp_region_e 10 (fun w' => w'.cell? ⟨gb, 1, none⟩ = some lv ∧ w'.cell? ⟨mb, 0, none⟩ = some (.slice va j vc)) (by kernel_rfl) ⟨b1, b7⟩ (fun S0 => ?_)
            have HBd := Lib.hid (show Blk w9.drew gb #[iv base, lv] tK from HBb.out)
            have HBXd := Lib.hid (show Blk w9.drew mb #[.slice va j vc] tM from HB9.out)
            have HTd := Lib.hid (show TapeAt w9.drew w.heap.size _ _ from HT9.out)
            have HMd := Lib.hid HMw9.out.drew
            have HKd := Lib.hid (Kept.mod ((Mod.refl w9 []).drew))
            generalize w9.drew = wd at *
            clear b1 b7
            refine He.wpE_take (i := 0) (v := ?_) rfl (by kernel_rfl) (by kernel_rfl) (by kernel_rfl) (by kernel_rfl) (by kernel_rfl) (fun _ _ _ h => h) (by rfl) ?_ (by assumption) ?_
            rotate_left
            · (intro w' hSw; (try dsimp only at hSw); go_simp; first | done | with_reducible rfl)
            try simp only [List.getElem_toArray, List.getElem_cons_succ, List.getElem_cons_zero, Act.put, List.setIfInBounds_toArray, List.set_cons_zero, List.set_cons_succ]
            refine He.wpE_take (i := 1) (v := ?_) rfl (by kernel_rfl) (by kernel_rfl) (by kernel_rfl) (by kernel_rfl) (by kernel_rfl) (fun _ _ _ h => h) (by rfl) ?_ (by assumption) ?_
            rotate_left
            · (intro w' hSw; (try dsimp only at hSw); go_simp; first | done | with_reducible rfl)
            try simp only [List.getElem_toArray, List.getElem_cons_succ, List.getElem_cons_zero, Act.put, List.setIfInBounds_toArray, List.set_cons_zero, List.set_cons_succ]
            refine He.wpE_take (i := 2) (v := ?_) rfl (by kernel_rfl) (by kernel_rfl) (by kernel_rfl) (by kernel_rfl) (by kernel_rfl) (fun _ _ _ h => h) (by rfl) ?_ (by assumption) ?_
            rotate_left
            · (intro w' hSw; (try dsimp only at hSw); go_simp; first | done | with_reducible rfl)
            try simp only [List.getElem_toArray, List.getElem_cons_succ, List.getElem_cons_zero, Act.put, List.setIfInBounds_toArray, List.set_cons_zero, List.set_cons_succ]
            refine He.wpE_take (i := 3) (v := ?_) rfl (by kernel_rfl) (by kernel_rfl) (by kernel_rfl) (by kernel_rfl) (by kernel_rfl) (fun _ _ _ h => h) (by rfl) ?_ (by assumption) ?_
            rotate_left
            · (intro w' hSw; (try dsimp only at hSw); go_simp; first | done | with_reducible rfl)
            try simp only [List.getElem_toArray, List.getElem_cons_succ, List.getElem_cons_zero, Act.put, List.setIfInBounds_toArray, List.set_cons_zero, List.set_cons_succ]
            refine He.wpE_take (i := 4) (v := ?_) rfl (by kernel_rfl) (by kernel_rfl) (by kernel_rfl) (by kernel_rfl) (by kernel_rfl) (fun _ _ _ h => h) (by rfl) ?_ (by assumption) ?_
            rotate_left
            · (intro w' hSw; (try dsimp only at hSw); go_simp; first | done | with_reducible rfl)
            try simp only [List.getElem_toArray, List.getElem_cons_succ, List.getElem_cons_zero, Act.put, List.setIfInBounds_toArray, List.set_cons_zero, List.set_cons_succ]
            refine He.wpE_take (i := 5) (v := ?_) rfl (by kernel_rfl) (by kernel_rfl) (by kernel_rfl) (by kernel_rfl) (by kernel_rfl) (fun _ _ _ h => h) (by rfl) ?_ (by assumption) ?_
            rotate_left
            · (intro w' hSw; (try dsimp only at hSw); go_simp; first | done | with_reducible rfl)
            try simp only [List.getElem_toArray, List.getElem_cons_succ, List.getElem_cons_zero, Act.put, List.setIfInBounds_toArray, List.set_cons_zero, List.set_cons_succ]
            refine He.wpE_one (i := 6) (by kernel_rfl) rfl (by rfl) (fun K hK => ?_)
            go_simp
            have hm4 := (Mod.refl wd []).alloc (.cells #[.slice va j vc] 32)
            have HC4 := Lib.hid (Blk.new wd #[.slice va j vc] 32)
            have HB4 := Lib.hid (HBd.out.mod hm4 (by simp))
            have HBX4 := Lib.hid (HBXd.out.mod hm4 (by simp))
            have HT4 := Lib.hid (Blk.mod HTd.out hm4 (by simp))
            have HM4 := Lib.hid (HMd.out.trans0 hm4)
            have HK4 := Lib.hid (HKd.out.trans (Kept.mod hm4))
            clear hm4
            have S4 : (wd.alloc (.cells #[.slice va j vc] 32)).cell? ⟨gb, 1, none⟩ = some lv ∧ (wd.alloc (.cells #[.slice va j vc] 32)).cell? ⟨mb, 0, none⟩ = some (.slice va j vc) := ⟨HB4.out.cell 1, HBX4.out.cell 0⟩
            refine hK.out _ _ (fun _ => S4) ?_
            clear hK K
            try simp only [Act.put, List.setIfInBounds_toArray, List.set_cons_zero, List.set_cons_succ]
            have hz3 := HC4.out.cell 0
            generalize wd.heap.size = n3 at *
            generalize wd.alloc _ = w4' at *
            refine He.wpE_one (i := 7) (by kernel_rfl) rfl (by rfl) (fun K hK => ?_)
            refine wp_app _ _ (by rfl) (N := w.heap.size) (us := us) (v := lv) (by rfl) (HLA.out.kept HK4.out) ⟨n3, 0, none⟩ 1 (.slice va j vc) (by rfl) hz3 (by rfl) (by rw [HLN.out, hll]; omega) HM4.out.size ?_
            intro v' w5' hown hgr
            obtain ⟨a5, c5, rfl⟩ := Rw.own_slice hown
            have HB5 : Hid (Blk w5' gb #[iv base, lv] tK) := Lib.hid (hgr.keep HB4.out (fun cs z e => by injection e with _ e; exact absurd e (by decide)))
            have HT5 : Hid (TapeAt w5' w.heap.size _ _) := Lib.hid (hgr.keep HT4.out (fun cs z e => by injection e with _ e; exact absurd e (by decide)))
            have HO5 := Lib.hid hown
            have HBW5 := Lib.hid (HM4.out.below0.trans (hgr.bw HM4.out.size gb).below)
            have HR5 : Hid (All2 (RowAt w5' (fun _ => False)) (us ++ [.slice va j vc]) (l ++ [xs])) := Lib.hid (all2_snoc (by
                exact (hgr.bw HM4.out.size gb).row ((row_own HNE.out (by rw [HXL.out]; exact HO9.out)).kept HK4.out) ⟨_, HB4.out⟩)
              (all2_mono (fun u xs h => (hgr.bw HM4.out.size gb).row (h.kept HK4.out) ⟨_, HB4.out⟩) HROWS.out))
            have HX5 := hgr.far HBX4.out (fun e => by have := HLT.out _ e; omega)
            have S5 : w5'.cell? ⟨gb, 1, none⟩ = some lv ∧ w5'.cell? ⟨mb, 0, none⟩ = some (.slice va j vc) := ⟨HB5.out.cell 1, HX5.cell 0⟩
            clear hgr hown S4 HX5
            refine hK.out _ _ (fun _ => S5) ?_
            clear hK K
            try simp only [Act.put, List.setIfInBounds_toArray, List.set_cons_zero, List.set_cons_succ]
            refine He.wpE_take (i := 8) (v := ?_) rfl (by kernel_rfl) (by kernel_rfl) (by kernel_rfl) (by kernel_rfl) (by kernel_rfl) (fun _ _ _ h => h) (by rfl) ?_ (by assumption) ?_
            rotate_left
            · (intro w' hSw; (try dsimp only at hSw); go_simp; first | done | with_reducible rfl)
            try simp only [List.getElem_toArray, List.getElem_cons_succ, List.getElem_cons_zero, Act.put, List.setIfInBounds_toArray, List.set_cons_zero, List.set_cons_succ]
            refine He.wpE_take (i := 9) (v := ?_) rfl (by kernel_rfl) (by kernel_rfl) (by kernel_rfl) (by kernel_rfl) (by kernel_rfl) (fun _ _ _ h => h) (by rfl) ?_ (by assumption) ?_
            rotate_left
            · (intro w' hSw; (try dsimp only at hSw); go_simp; first | done | with_reducible rfl)
            try simp only [List.getElem_toArray, List.getElem_cons_succ, List.getElem_cons_zero, Act.put, List.setIfInBounds_toArray, List.set_cons_zero, List.set_cons_succ]
            have g1 := HB5.out.cell 1
            have f1 := HB5.out.free 1
            refine He.wpE_one (i := 10) (by kernel_rfl) rfl (by rfl) (fun K hK => ?_)
            go_simp
            refine hK.out _ _ (fun h => absurd rfl h) ?_
            clear hK K
            refine He.wpE_done (by kernel_rfl) ?_
            try simp only [Act.put, List.setIfInBounds_toArray, List.set_cons_zero, List.set_cons_succ]
            have hlu : us.length = l.length := HLN.out
            have HM6 := Lib.hid ((Mod.refl w5' [gb]).setCell (p := ⟨gb, 1, none⟩) (by simp) (.slice a5 (us.length + 1) c5))
            have HK6 := Lib.hid (BookAt.step (X := fun _ => False) hNg HB5.out HM6.out (HB5.out.set 1 (.slice a5 (us.length + 1) c5)) (us := us ++ [.slice va j vc]) (.inl (by rw [List.length_append]; exact HO5.out)) HR5.out)
            have HT6 := Lib.hid (Blk.mod HT5.out HM6.out (by simp; omega))
            have HW6 := Lib.hid (Mod.of_below (HBW5.out.trans (HM6.out.below (B := w.heap.size) (by have := HBW5.out.size; omega) (by simp; omega))))
            generalize w5'.setCell _ _ = w6 at *
            go_wp2_with fail
            go_roundw
            case rel =>
              exact ⟨i + 1, l ++ [xs], (rdL 549755813888 j u.next).2, by go_num, by omega, HRD1.out, Nat.le_trans (rdL_size _ _ _) hus1, HW6.out, HT6.out, HK6.out⟩
            case measure => simp [intOf]; omega
          · have hmay' : mayB xs = false := by simpa using hmay
            rw [hmay'] at MC
            have hr := Lib.hid (show R = none by
              have h1 : rowsD (i + 1) t2 = none := by
                unfold rowsD
                rw [HRD.out]
                simp only
                rw [HJ.out, HXS.out, if_neg hmay]
              have h2 := rowsD_none h1 (n.toNat - (i + 1))
              rw [show i + 1 + (n.toNat - (i + 1)) = n.toNat by omega] at h2
              rw [HLD.out, h2])
            go_wp2_with fail
            (with_reducible refine MC.out.mono ?_)
            rintro e w9 ⟨rfl, hm9⟩
            have HMw9 := Lib.hid (HMw.out.trans0 hm9)
            clear hm9
            go_wp2_with fail
            go_ret2
            rw [hr.out]
            exact ⟨HMw9.out, rfl⟩
    · have hge : n ≤ (i : Int) := by omega
      have HI : Hid (i = n.toNat) := Lib.hid (by omega)
      obtain ⟨hll, hlm, hl16⟩ := rowsD_len HRD.out
      have hEC := Lib.hid (fun w' (m : Mod wr w' []) => end_calls (HL.out.bk.mod m) hbl hbh (by omega))
      have TEC := Lib.hid (End_calls w.heap.size u.s u.e wr HL.out.tp)
      obtain ⟨ra, rc, hrb⟩ := HL.out.bk.rows
      have c0 := hrb.cell 0
      clear hrb
      have HRES : Hid (R = if endE u.s u.e = 0 ∧ 0 ≤ base ∧ 0 ≤ n ∧ base + l.length ≤ 549755813888 then some (base, l) else none) := Lib.hid (by
        rw [HLD.out, ← HI.out, HRD.out])
      have hl64 : (l.length : Int) ≤ 64 := by omega
      generalize endE u.s u.e = ee at *
      by_cases h1 : ee = 0
      · subst h1
        by_cases h2 : base < 0
        · have hr := Lib.hid (show R = none by rw [HRES.out, if_neg (by omega)])
          go_wp2_with fail
          (with_reducible refine TEC.out.mono ?_)
          rintro e w5 ⟨rfl, rfl⟩
          go_wp2_with fail
          go_ret2
          rw [hr.out]
          exact ⟨HL.out.md, rfl⟩
        · have h2' : decide (base < 0) = false := decide_eq_false h2
          by_cases h3 : n < 0
          · have hr := Lib.hid (show R = none by rw [HRES.out, if_neg (by omega)])
            go_wp2_with fail
            (with_reducible refine TEC.out.mono ?_)
            rintro e w5 ⟨rfl, rfl⟩
            go_wp2_with fail
            go_ret2
            rw [hr.out]
            exact ⟨HL.out.md, rfl⟩
          · have h3' : decide (n < 0) = false := decide_eq_false h3
            by_cases h4 : 549755813888 < base + (l.length : Int)
            · have hr := Lib.hid (show R = none by rw [HRES.out, if_neg (by omega)])
              go_wp2_with fail
              (with_reducible refine TEC.out.mono ?_)
              rintro e w5 ⟨rfl, rfl⟩
              go_wp2_with fail
              (with_reducible refine (hEC.out _ (Mod.refl _ _)).mono ?_)
              rintro e w6 ⟨rfl, hm6⟩
              have HM6 := Lib.hid (HL.out.md.trans0 hm6)
              clear hm6
              go_wp2_with fail
              go_ret2
              rw [hr.out]
              exact ⟨HM6.out, rfl⟩
            · have h4' : decide (549755813888 < base + (l.length : Int)) = false := decide_eq_false h4
              have hr := Lib.hid (show R = some (base, l) by rw [HRES.out, if_pos (by omega)])
              go_wp2_with fail
              (with_reducible refine TEC.out.mono ?_)
              rintro e w5 ⟨rfl, rfl⟩
              go_wp2_with fail
              (with_reducible refine (hEC.out _ (Mod.refl _ _)).mono ?_)
              rintro e w6 ⟨rfl, hm6⟩
              have HL6 := Lib.hid (HL.out.mod hm6)
              clear hm6
              go_wp2_with fail
              go_ret2
              rw [hr.out]
              exact ⟨HL6.out.md, gb, rfl, HL6.out.bk⟩
      · have h1' : (ee != 0) = true := by simpa using h1
        have hr := Lib.hid (show R = none by rw [HRES.out, if_neg (fun h => h1 h.1)])
        go_wp2_with fail
        (with_reducible refine TEC.out.mono ?_)
        rintro e w5 ⟨rfl, rfl⟩
        go_wp2_with fail
        go_ret2
        rw [hr.out]
        exact ⟨HL.out.md, rfl⟩
end Go.Proofs.Ytceocpohdckkoaa.Bx
