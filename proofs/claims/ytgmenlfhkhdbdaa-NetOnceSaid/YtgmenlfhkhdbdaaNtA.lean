/- The law NetOnce. -/
import Derived.Test.YtgmenlfhkhdbdaaNt9
namespace Go.Proofs.Ytgmenlfhkhdbdaa.Nt
open Go.RowKit Mem Nm Ra
open Ag (It AgW AgT Keep insI woI dueI leftI hasI AddP ItAt soon)
set_option linter.unusedSimpArgs false
set_option linter.unusedVariables false
set_option maxRecDepth 100000

/-- What is under way: the items whose time is above T. -/
structure Onc (xs : List Int) (k : Nat) (T : Int) (S : List It) (M : Int → Option Ms) : Prop where
  mem : ∀ s, s ∈ S ↔ ∃ j, j < k ∧ s = itO xs j ∧ T < atO xs j
  ask : ∀ s ∈ S, M s.2.1 = some (askO s.2.1)
theorem atO_nn (xs : List Int) (j : Nat) : (j : Int) ≤ atO xs j ∧ atO xs j ≤ j + 49 := by
  have := dl_bd (xs.getD j 0)
  unfold atO
  omega
theorem Onc.step {xs : List Int} {k : Nat} {S : List It} {M : Int → Option Ms} (h : Onc xs k (-1) S M) : Onc xs (k + 1) (-1) (insI S (itO xs k)) (setM M ((k : Int) + 1) (askO ((k : Int) + 1))) := by
  refine ⟨fun s => ?_, fun s hs => ?_⟩
  · rw [Ag.ins_mem, h.mem]
    constructor
    · rintro (⟨j, hj, e, ht⟩ | e)
      · exact ⟨j, by omega, e, ht⟩
      · exact ⟨k, by omega, e, by have := (atO_nn xs k).1; omega⟩
    · rintro ⟨j, hj, e, ht⟩
      by_cases hjk : j = k
      · subst hjk; exact .inr e
      · exact .inl ⟨j, by omega, e, ht⟩
  · unfold setM
    rcases Ag.ins_mem.1 hs with hs | rfl
    · obtain ⟨j, hj, rfl, _⟩ := (h.mem s).1 hs
      rw [if_neg (by show ¬ ((j : Int) + 1 = k + 1); omega)]
      exact h.ask _ hs
    · rw [if_pos (show (itO xs k).2.1 = (k : Int) + 1 from rfl)]; rfl
theorem left_mem {S : List It} {last now : Int} (ho : Ag.Ok S last) (s : It) : s ∈ leftI S now ↔ s ∈ S ∧ now < s.1 := by
  rw [Ag.left_filter ho, List.mem_filter]
  simp
theorem due_mem' {S : List It} {last now : Int} (ho : Ag.Ok S last) (s : It) : s ∈ dueI S now ↔ s ∈ S ∧ s.1 ≤ now := by
  rw [Ag.due_filter ho, List.mem_filter]
  simp
theorem Onc.due {xs : List Int} {k : Nat} {T now last : Int} {S : List It} {M : Int → Option Ms} (h : Onc xs k T S M) (ho : Ag.Ok S last) (hT : T ≤ now) : Onc xs k now (leftI S now) (delL M (dueI S now)) := by
  refine ⟨fun s => ?_, fun s hs => ?_⟩
  · rw [left_mem ho, h.mem]
    constructor
    · rintro ⟨⟨j, hj, rfl, ht⟩, hn⟩
      exact ⟨j, hj, rfl, hn⟩
    · rintro ⟨j, hj, rfl, hn⟩
      exact ⟨⟨j, hj, rfl, by omega⟩, hn⟩
  · obtain ⟨h1, h2⟩ := (left_mem ho s).1 hs
    have hS : dueI S now ++ leftI S now = S := List.takeWhile_append_dropWhile
    have hp := ho.ids
    rw [← hS, List.pairwise_append] at hp
    unfold delL
    rw [if_neg, h.ask s h1]
    rw [List.any_eq_true]
    rintro ⟨t, ht, e⟩
    exact hp.2.2 t ht s hs (by simpa using e)
/-- Which came amid a round. -/
def cameK (xs : List Int) (T : Int) (D : List It) (id : Nat) : Bool := cameT xs T id || D.any (fun s => s.2.1 == (id : Int))
theorem cameK_snoc (xs : List Int) (T : Int) (D : List It) (s : It) (e : Nat) (he : s.2.1 = (e : Int)) (id : Nat) : cameK xs T (D ++ [s]) id = (cameK xs T D id || id == e) := by
  unfold cameK
  rw [List.any_append]
  simp only [List.any_cons, List.any_nil, Bool.or_false, he]
  have : ((e : Int) == (id : Int)) = (id == e) := by
    rw [Bool.eq_iff_iff]
    simp only [beq_iff_eq]
    omega
  rw [this, Bool.or_assoc]
theorem cameK_all {xs : List Int} {k : Nat} {T now last : Int} {S : List It} {M : Int → Option Ms} (h : Onc xs k T S M) (ho : Ag.Ok S last) (hT : T ≤ now) (id : Nat) (hid : id < k + 1) : cameK xs T (dueI S now) id = cameT xs now id := by
  rw [Bool.eq_iff_iff]
  unfold cameK cameT
  simp only [Bool.or_eq_true, Bool.and_eq_true, decide_eq_true_eq, List.any_eq_true, beq_iff_eq]
  constructor
  · rintro (⟨h1, h2⟩ | ⟨s, hs, e⟩)
    · exact ⟨h1, by omega⟩
    · obtain ⟨h1, h2⟩ := (due_mem' ho s).1 hs
      obtain ⟨j, hj, rfl, ht⟩ := (h.mem s).1 h1
      have e : (j : Int) + 1 = id := e
      have ej : id - 1 = j := by omega
      exact ⟨by omega, by rw [ej]; exact h2⟩
  · rintro ⟨h1, h2⟩
    by_cases ht : atO xs (id - 1) ≤ T
    · exact .inl ⟨h1, ht⟩
    · refine .inr ⟨itO xs (id - 1), (due_mem' ho _).2 ⟨(h.mem _).2 ⟨id - 1, by omega, rfl, by omega⟩, h2⟩, ?_⟩
      show ((id - 1 : Nat) : Int) + 1 = id
      omega
def atA (xs : List Int) (i : Nat) (j : Nat) : Int := if 1 ≤ j ∧ j ≤ i then atO xs (j - 1) else 0
set_option maxHeartbeats 32000000 in
theorem netOnce_calls (w : World) (a : Value) (ha : Open.Rd w (.sl (.int .i64) 8) [a]) (b : Value) (hb : Open.Rd w (.sl (.int .i64) 8) [b]) :
    Calls Try.prog 3 #[a, b] w fun e w' => e = .returned (.bool true) ∧ Below w.heap.size w w' := by
  obtain ⟨xs, ad, acap, rfl, hal, hax, hac⟩ := ints_rd ha
  obtain ⟨ys, bd, bcap, rfl, hbl, hbx, hbc⟩ := ints_rd hb
  have NC := Lib.hid (nnew_calls w)
  have AW := Lib.hid (fun w => awake_calls w)
  have HAC := Lib.hid hac
  have HBC := Lib.hid hbc
  have hal' : (xs.length : Int) ≤ 140737488351232 := by omega
  have hbl' : (ys.length : Int) ≤ 140737488351232 := by omega
  clear ha hax hac hb hbx hbc
  by_cases hbig : 300 < xs.length ∨ 300 < ys.length
  · rcases (by omega : 300 < xs.length ∨ (xs.length ≤ 300 ∧ 300 < ys.length)) with hb1 | ⟨hb1, hb2⟩
    · have hb' : (300 : Int) < xs.length := by omega
      clear hbig
      go_enter Try.func3, Try.ntmps3
      go_wp2_with fail
      (with_reducible refine (NC.out).mono ?_)
      rintro e w1 ⟨g, ag, mb, rfl, _, hm⟩
      have HM1 := Lib.hid hm
      clear hm NC
      go_wp2_with fail
      (with_reducible refine (AW.out _).mono ?_)
      rintro e w2 ⟨rfl, hm⟩
      have HM2 := Lib.hid (HM1.out.trans0 hm)
      clear hm HM1
      go_wp2_with fail
      (with_reducible refine (AW.out _).mono ?_)
      rintro e w3 ⟨rfl, hm⟩
      have HM3 := Lib.hid (HM2.out.trans0 hm)
      clear hm HM2
      go_wp2_with fail
      go_ret
      exact ⟨rfl, HM3.out.below0⟩
    · have hb' : (xs.length : Int) ≤ 300 := by omega
      have hb'' : (300 : Int) < ys.length := by omega
      clear hbig
      go_enter Try.func3, Try.ntmps3
      go_wp2_with fail
      (with_reducible refine (NC.out).mono ?_)
      rintro e w1 ⟨g, ag, mb, rfl, _, hm⟩
      have HM1 := Lib.hid hm
      clear hm NC
      go_wp2_with fail
      (with_reducible refine (AW.out _).mono ?_)
      rintro e w2 ⟨rfl, hm⟩
      have HM2 := Lib.hid (HM1.out.trans0 hm)
      clear hm HM1
      go_wp2_with fail
      (with_reducible refine (AW.out _).mono ?_)
      rintro e w3 ⟨rfl, hm⟩
      have HM3 := Lib.hid (HM2.out.trans0 hm)
      clear hm HM2
      go_wp2_with fail
      go_ret
      exact ⟨rfl, HM3.out.below0⟩
  have hn1 : xs.length ≤ 300 := by omega
  have hb1 : (xs.length : Int) ≤ 300 := by omega
  have hb2 : (ys.length : Int) ≤ 300 := by omega
  have MI := make_ints (xs.length + 1) (by omega)
  rw [show ((xs.length + 1 : Nat) : Int) = (xs.length : Int) + 1 by omega] at MI
  have hwn := IntWalk.i64_in ((xs.length : Int) + 1) (by omega)
  clear hbig
  go_enter Try.func3, Try.ntmps3
  go_wp2_with fail
  (with_reducible refine (NC.out).mono ?_)
  rintro e w1 ⟨g, ag, mb, rfl, hn1', _⟩
  have HN1 := Lib.hid hn1'
  clear hn1' NC
  go_wp2_with fail
  (with_reducible refine (AW.out _).mono ?_)
  rintro e w2 ⟨rfl, hm2⟩
  have HN2 := Lib.hid ((HN1.out.mod hm2).mod ((Mod.refl w2 []).alloc (.cells (intsA (xs.length + 1) (fun _ => 0)) 3)))
  have HA2 := Lib.hid (Blk.new w2 (intsA (xs.length + 1) (fun _ => 0)) 3)
  have hab : w.heap.size ≤ w2.heap.size := (HN1.out.mod hm2).md.size
  clear hm2 HN1 AW
  go_wp2_with fail
  obtain ⟨tb, htb⟩ : ∃ tb, tb = w2.heap.size := ⟨_, rfl⟩
  rw [← htb] at HA2 hab ⊢
  generalize w2.alloc _ = W at HN2 HA2 ⊢
  clear htb MI
  go_loopw [7] (fun vi wr => ∃ (i : Nat) (S : List It) (M : Int → Option Ms), i ≤ xs.length ∧ vi = .int .i64 (i : Int) ∧ NetW w wr g ag mb (i : Int) S i M noC ∧ S.length = i ∧ Hid (Onc xs i (-1) S M) ∧ Blk wr tb (intsA (xs.length + 1) (atA xs i)) 3) (fun vi _ => xs.length + 1 - (intOf vi).toNat)
  case atStart =>
    refine ⟨0, [], fun _ => none, Nat.zero_le _, rfl, HN2.out, rfl, Lib.hid ⟨fun s => ?_, fun s hs => by simp at hs⟩, ?_⟩
    · constructor
      · intro h; simp at h
      · rintro ⟨j, hj, _⟩; omega
    · have := HA2.out
      rwa [intsA_congr (d := atA xs 0) (fun j _ => by unfold atA; rw [if_neg (by omega)])] at this
  case round =>
    obtain ⟨i, S, M, hi, rfl, hn, hsl, HO, hbk⟩ := hrel
    have HN := Lib.hid hn
    have HB := Lib.hid hbk
    have HSL := Lib.hid hsl
    clear hn hbk hsl HN2 HA2
    by_cases hlt : i < xs.length
    · have hlt' : (i : Int) < xs.length := by omega
      obtain ⟨bb, off, rfl, hc⟩ := HAC.out.resolve_left (fun h => by rw [h] at hlt; simp at hlt)
      have c0 := Ra.keepC HN.out.md (hc i hlt)
      have HX : Hid (xs.getD i 0 = xs[i]'hlt) := Lib.hid (by simp [hlt])
      clear hc
      generalize xs[i]'hlt = x at *
      have hd := dl_bd x
      have HD : Hid (wrap64 (x.tmod 50 + 50) = x.tmod 50 + 50) := Lib.hid (by
        have h1 := Int.tmod_lt_of_pos x (b := 50) (by omega)
        have h2 := Int.lt_tmod_of_pos x (b := 50) (by omega)
        exact IntWalk.wrap64_in _ (by omega))
      have AC := Lib.hid (fun W => ask_calls ((i : Int) % 7) (((i : Int) + 1) % 7) ((i : Int) + 1) W)
      have hwi := IntWalk.i64_in ((i : Int) + 1) (by omega)
      have hwi2 := IntWalk.wrap64_in ((i : Int) + 1) (by omega)
      go_upto_region 9 with (fail)
      rw [HD.out, show (x.tmod 50 + 50).tmod 50 = dl x from rfl]
      generalize hdx : dl x = d at *
      clear HD
      go_wp2_with fail
      (with_reducible refine (AC.out _).mono ?_)
      rintro e w3 ⟨rfl, hm3⟩
      have HN3 := Lib.hid (HN.out.mod hm3)
      have HB3 := Lib.hid (HB.out.mod hm3 (by simp))
      clear hm3 HN HB c0
      have SC := Lib.hid (asend_calls w w3 g ag mb _ _ _ _ _ HN3.out (by omega) (by omega) (i : Int) ((i : Int) % 7) (((i : Int) + 1) % 7) ((i : Int) + 1) d)
      have HCK : Hid (checkB (askM ((i : Int) % 7) (((i : Int) + 1) % 7) ((i : Int) + 1)) = true) := Lib.hid (by
        have := askO_check ((i : Int) + 1) (by omega)
        unfold askO at this
        rwa [show (i : Int) + 1 - 1 = i by omega] at this)
      have HEQ : Hid (askM ((i : Int) % 7) (((i : Int) + 1) % 7) ((i : Int) + 1) = askO ((i : Int) + 1)) := Lib.hid (by unfold askO; rw [show (i : Int) + 1 - 1 = i by omega])
      go_wp2_with fail
      (with_reducible refine (SC.out).mono ?_)
      rintro e w4 hsp
      obtain ⟨rfl, hn4, hk4⟩ := hsp.ok (inB_t.2 (by omega)) (inB_t.2 (by omega)) HCK.out rfl (by rw [HSL.out]; omega)
      have HIT : Hid (((i : Int) + d, (i : Int) + 1, (0 : Int)) = itO xs i) := Lib.hid (by unfold itO atO; rw [HX.out, hdx])
      rw [HEQ.out, HIT.out] at hn4
      have HN4 := Lib.hid hn4
      have HB4 := Lib.hid (hk4 _ _ _ HB3.out (by decide) (by rintro (h | h) <;> revert h <;> decide))
      clear hsp hn4 hk4 SC HN3 HB3 HCK HEQ
      have hwd := IntWalk.i64_in ((i : Int) + d) (by omega)
      have t0 : w4.cell? ⟨tb, i + 1, none⟩ = some (.int .i64 (atA xs i (i + 1))) := by rw [HB4.out.cell, intsA_get (by omega)]
      have tf := HB4.out.free (i + 1)
      have HB5 := Lib.hid (HB4.out.set (i + 1) (.int .i64 ((i : Int) + d)))
      rw [intsA_set, intsA_congr (d := atA xs (i + 1)) (fun j _ => by
        unfold atA
        by_cases e : j = i + 1
        · rw [if_pos e, if_pos (by omega), e]
          unfold atO
          rw [show i + 1 - 1 = i by omega, HX.out, hdx]
        · rw [if_neg e]
          by_cases h2 : 1 ≤ j ∧ j ≤ i
          · rw [if_pos h2, if_pos (by omega)]
          · rw [if_neg h2, if_neg (by omega)])] at HB5
      have HN5 := Lib.hid (HN4.out.far HB4.out hab (by decide) (by rintro (h | h) <;> revert h <;> decide) ((Mod.refl w4 [tb]).setCell (p := ⟨tb, i + 1, none⟩) (.inl (by simp)) (.int .i64 ((i : Int) + d))))
      clear HN4
      go_wp2_with fail
      go_roundw
      case rel => exact ⟨i + 1, _, _, by omega, by go_num, by have h := HN5.out; exact_mod_cast h, by rw [Ag.ins_len, HSL.out], Lib.hid HO.out.step, HB5.out⟩
      case measure => simp [intOf]; omega
    · obtain rfl : i = xs.length := by omega
      have HN0 : Hid (NetW w wr g ag mb (xs.length : Int) S xs.length M noC) := HN
      have HB0 := HB
      clear HN HB HAC
      have MB := make_bools (xs.length + 1) (by omega)
      rw [show ((xs.length + 1 : Nat) : Int) = (xs.length : Int) + 1 by omega] at MB
      go_wp2_with fail
      refine He.wp_region_e 4 (fun _ => True) (by kernel_rfl) trivial (fun S0 => ?_)
      have HN1 := Lib.hid ((HN0.out.mod ((Mod.refl wr []).drew)).mod ((Mod.refl wr.drew []).alloc (.cells (bools (xs.length + 1) (fun _ => false)) 4)))
      have HB1 := Lib.hid ((HB0.out.mod ((Mod.refl wr []).drew) (by simp)).alloc (.cells (bools (xs.length + 1) (fun _ => false)) 4))
      have HC1 := Lib.hid (Blk.new wr.drew (bools (xs.length + 1) (fun _ => false)) 4)
      have hcb : w.heap.size ≤ wr.drew.heap.size := (HN0.out.mod ((Mod.refl wr []).drew)).md.size
      clear HN0 HB0
      generalize wr.drew = wd at *
      refine He.wpE_take (i := 0) (v := ?_) rfl (by kernel_rfl) (by kernel_rfl) (by kernel_rfl) (by kernel_rfl) (by kernel_rfl) (fun _ _ _ h => h) (by rfl) ?_ (by assumption) ?_
      rotate_left
      · (intro w' hSw; (try dsimp only at hSw); go_simp; first | done | with_reducible rfl)
      try simp only [List.getElem_toArray, List.getElem_cons_succ, List.getElem_cons_zero, Act.put, List.setIfInBounds_toArray, List.set_cons_zero, List.set_cons_succ]
      refine He.wpE_take (i := 1) (v := ?_) rfl (by kernel_rfl) (by kernel_rfl) (by kernel_rfl) (by kernel_rfl) (by kernel_rfl) (fun _ _ _ h => h) (by rfl) ?_ (by assumption) ?_
      rotate_left
      · (intro w' hSw; (try dsimp only at hSw); go_simp; first | done | with_reducible rfl)
      try simp only [List.getElem_toArray, List.getElem_cons_succ, List.getElem_cons_zero, Act.put, List.setIfInBounds_toArray, List.set_cons_zero, List.set_cons_succ]
      refine He.wpE_take (i := 3) (v := ?_) rfl (by kernel_rfl) (by kernel_rfl) (by kernel_rfl) (by kernel_rfl) (by kernel_rfl) (fun _ _ _ h => h) (by rfl) ?_ (by assumption) ?_
      rotate_left
      · (intro w' hSw; (try dsimp only at hSw); go_simp; first | done | with_reducible rfl)
      try simp only [List.getElem_toArray, List.getElem_cons_succ, List.getElem_cons_zero, Act.put, List.setIfInBounds_toArray, List.set_cons_zero, List.set_cons_succ]
      refine He.wpE_one (i := 2) (by kernel_rfl) rfl (by rfl) (fun K hK => ?_)
      go_simp
      refine hK.out _ _ (fun _ => trivial) ?_
      clear hK K
      try simp only [Act.put, List.setIfInBounds_toArray, List.set_cons_zero, List.set_cons_succ]
      refine He.wpE_one (i := 4) (by kernel_rfl) rfl (by rfl) (fun K hK => ?_)
      go_simp
      refine hK.out _ _ (fun h => absurd rfl h) ?_
      clear hK K
      refine He.wpE_done (by kernel_rfl) ?_
      try simp only [Act.put, List.setIfInBounds_toArray, List.set_cons_zero, List.set_cons_succ]
      obtain ⟨cb, hcb'⟩ : ∃ cb, cb = wd.heap.size := ⟨_, rfl⟩
      rw [← hcb'] at HC1 hcb ⊢
      generalize wd.alloc _ = W2 at HN1 HB1 HC1 ⊢
      clear hcb' MB
      go_wp2_with fail
      obtain ⟨wo, rfl⟩ : ∃ wo, wo = wr := ⟨_, rfl⟩
      go_loopw [11, 13] (fun vn vk wr => ∃ (k : Nat) (T N : Int) (S : List It) (M : Int → Option Ms), vn = .int .i64 N ∧ vk = .int .i64 (k : Int) ∧ k ≤ ys.length ∧ (-1 ≤ T ∧ T ≤ N ∧ 0 ≤ N ∧ N ≤ 20 * (k : Int)) ∧ NetW w wr g ag mb (xs.length : Int) S xs.length M noC ∧ Hid (Onc xs xs.length T S M) ∧ Blk wr tb (intsA (xs.length + 1) (atA xs xs.length)) 3 ∧ Blk wr cb (bools (xs.length + 1) (cameT xs T)) 4) (fun _ vk _ => ys.length + 1 - (intOf vk).toNat)
      case atStart =>
        refine ⟨0, -1, 0, S, M, rfl, rfl, Nat.zero_le _, by omega, HN1.out, HO, HB1.out, ?_⟩
        have := HC1.out
        rwa [bools_congr (d := cameT xs (-1)) (fun j _ => by
          unfold cameT
          by_cases h : 1 ≤ j
          · rw [decide_eq_true h, decide_eq_false (by have := (atO_nn xs (j - 1)).1; omega)]; rfl
          · rw [decide_eq_false h]; rfl)] at this
      case round =>
        obtain ⟨k, T, N, S, M, rfl, rfl, hk, ⟨hT1, hT2, hN0, hN1⟩, hn, HO2, hba, hbc⟩ := hrel
        have HN := Lib.hid hn
        have HBA := Lib.hid hba
        have HBB := Lib.hid hbc
        clear hn hba hbc HN1 HB1 HC1 HO HSL
        by_cases hlk : k < ys.length
        · have hlk' : (k : Int) < ys.length := by omega
          obtain ⟨yb, yoff, rfl, hyc⟩ := HBC.out.resolve_left (fun h => by rw [h] at hlk; simp at hlk)
          have c0 := Ra.keepC HN.out.md (hyc k hlk)
          clear hyc
          generalize ys[k]'hlk = y at *
          obtain ⟨st, hst, hst0, hst1⟩ : ∃ st : Int, (wrap64 (y.tmod 20 + 20)).tmod 20 = st ∧ 0 ≤ st ∧ st ≤ 19 := by
            have h1 := Int.tmod_lt_of_pos y (b := 20) (by omega)
            have h2 := Int.lt_tmod_of_pos y (b := 20) (by omega)
            rw [IntWalk.wrap64_in (y.tmod 20 + 20) (by omega)]
            have h3 := Int.tmod_lt_of_pos (y.tmod 20 + 20) (b := 20) (by omega)
            have h4 := Int.tmod_nonneg (20 : Int) (a := y.tmod 20 + 20) (by omega)
            exact ⟨_, rfl, h4, by omega⟩
          go_upto_region 18 with (fail)
          clear hst c0
          obtain ⟨N', hN'⟩ : ∃ N', N + st = N' := ⟨_, rfl⟩
          rw [hN']
          have hN1' : 0 ≤ N' ∧ N' ≤ 20 * ((k : Int) + 1) ∧ T ≤ N' := by omega
          obtain ⟨hA, hB, hC⟩ := hN1'
          clear hN'
          have DC := Lib.hid (due_calls w wr g ag mb (xs.length : Int) S xs.length M noC HN.out (by omega) N')
          have HOK := Lib.hid HN.out.agw.ok
          have HOD := Lib.hid (HO2.out.due HOK.out hC)
          have HCA := Lib.hid (fun id hid => cameK_all HO2.out HOK.out hC id hid)
          have HDM : Hid (∀ s ∈ dueI S N', (∃ q, q < xs.length ∧ s = itO xs q ∧ T < atO xs q) ∧ s.1 ≤ N') := Lib.hid (fun s hs => by
            obtain ⟨h1, h2⟩ := (due_mem' HOK.out s).1 hs
            exact ⟨(HO2.out.mem s).1 h1, h2⟩)
          have HDI : Hid ((dueI S N').Pairwise (fun a b => a.2.1 ≠ b.2.1)) := Lib.hid (HOK.out.ids.sublist (List.takeWhile_sublist _))
          have HDS : Hid ((dueI S N').Pairwise (fun a b => soon a b = true)) := Lib.hid (HOK.out.srt.sublist (List.takeWhile_sublist _))
          have HMA : Hid (outM noC M (dueI S N') = (dueI S N').map (fun s => askO s.2.1)) := Lib.hid (outM_map (fun s hs => HO2.out.ask s (due_mem hs)))
          have hdl : (dueI S N').length ≤ 4096 := Nat.le_trans (List.takeWhile_sublist _).length_le HN.out.sl
          go_wp2_with fail
          (with_reducible refine (DC.out).mono ?_)
          rintro e w5 hdue
          unfold DueN at hdue
          generalize hSn : leftI S N' = Sn at *
          generalize hMn : delL M (dueI S N') = Mn at *
          clear hSn hMn DC HO2
          generalize dueI S N' = D at *
          obtain ⟨vo, os, rfl, hn5, hk5, ho5, hx5⟩ := hdue
          have HN5 := Lib.hid hn5
          have HBA5 := Lib.hid (hk5 _ _ _ HBA.out (by decide) (by rintro (h | h) <;> revert h <;> decide))
          have HBB5 := Lib.hid (hk5 _ _ _ HBB.out (by decide) (by rintro (h | h) <;> revert h <;> decide))
          have HO5 := Lib.hid ho5
          have HX5 : Hid (os.map Prod.fst = D.map (fun s => askO s.2.1)) := Lib.hid (hx5.trans HMA.out)
          have hol : os.length = D.length := by have := congrArg List.length HX5.out; simpa using this
          obtain ⟨va, vc, rfl⟩ := Rw.own_slice ho5.own
          have HOL := Lib.hid hol
          have hdl' : os.length ≤ 4096 := by omega
          clear hn5 hk5 ho5 hx5 HMA HN HBA HBB hol
          go_wp2_with fail
          obtain ⟨wo2, rfl⟩ : ∃ wo2, wo2 = wr := ⟨_, rfl⟩
          go_loopw [15, 16] (fun vl vj wr => ∃ (j : Nat) (lt : Int), vl = .int .i64 lt ∧ vj = .int .i64 (j : Int) ∧ j ≤ os.length ∧ (∀ s ∈ D.drop j, lt ≤ s.1) ∧ NetW w wr g ag mb (xs.length : Int) Sn xs.length Mn noC ∧ Blk wr tb (intsA (xs.length + 1) (atA xs xs.length)) 3 ∧ Blk wr cb (bools (xs.length + 1) (cameK xs T (D.take j))) 4 ∧ OutW w.heap.size wr (.slice va os.length vc) os) (fun _ vj _ => os.length + 1 - (intOf vj).toNat)
          case atStart =>
            refine ⟨0, -1, rfl, rfl, Nat.zero_le _, fun s hs => ?_, HN5.out, HBA5.out, ?_, HO5.out⟩
            · obtain ⟨⟨q, _, rfl, _⟩, _⟩ := HDM.out s (List.mem_of_mem_drop hs)
              have := (atO_nn xs q).1
              show (-1 : Int) ≤ atO xs q
              omega
            · have := HBB5.out
              rwa [bools_congr (d := cameK xs T (D.take 0)) (fun j _ => by unfold cameK; simp)] at this
          case round =>
            obtain ⟨j, lt, rfl, rfl, hj, hlt2, hn, hba, hbb, hou⟩ := hrel
            have HLT := Lib.hid hlt2
            have HN := Lib.hid hn
            have HBA := Lib.hid hba
            have HBB := Lib.hid hbb
            have HOU := Lib.hid hou
            clear hlt2 hn hba hbb hou HN5 HBA5 HBB5 HO5
            by_cases hlj : j < os.length
            · have hlj' : (j : Int) < os.length := by omega
              have hjD : j < D.length := by rw [← HOL.out]; exact hlj
              obtain ⟨gb, cap, hgv, hcap, hcs⟩ := HOU.out.cell hlj
              injection hgv with g1 g2 g3
              subst g1 g3
              clear g2
              have hm : (os[j]'hlj).1 = askO (D[j]'hjD).2.1 := by
                have := congrArg (fun l => l[j]?) HX5.out
                simpa [hlj, hjD] using this
              obtain ⟨⟨q, hq, hqe, hqT⟩, hqN⟩ := HDM.out _ (List.getElem_mem hjD)
              have e3 := hcs 3 (by omega)
              have e1 := hcs 1 (by omega)
              rw [hm, hqe] at e3 e1
              replace e3 : wr.cell? ⟨gb, j * 13 + 3, none⟩ = some (.int .i64 ((q : Int) + 1)) := e3
              replace e1 : wr.cell? ⟨gb, j * 13 + 1, none⟩ = some (.int .i64 (((q : Int) + 1 - 1) % 7)) := e1
              rw [show (q : Int) + 1 - 1 = q by omega] at e1
              have HTK : Hid (D.take (j + 1) = D.take j ++ [itO xs q]) := Lib.hid (by rw [List.take_add_one, List.getElem?_eq_getElem hjD, hqe]; rfl)
              have hcf : cameK xs T (D.take j) (q + 1) = false := by
                cases hc : cameK xs T (D.take j) (q + 1)
                · rfl
                · exfalso
                  unfold cameK cameT at hc
                  simp only [Bool.or_eq_true, Bool.and_eq_true, decide_eq_true_eq, List.any_eq_true, beq_iff_eq] at hc
                  rcases hc with ⟨_, h2⟩ | ⟨s, hs, e⟩
                  · rw [show q + 1 - 1 = q by omega] at h2; omega
                  · obtain ⟨i2, hi2, rfl⟩ := List.getElem_of_mem hs
                    rw [List.getElem_take] at e
                    rw [List.length_take] at hi2
                    have := List.pairwise_iff_getElem.1 HDI.out i2 j (by omega) hjD (by omega)
                    rw [hqe] at this
                    exact this (by rw [e]; show (((q + 1 : Nat) : Int)) = (q : Int) + 1; omega)
              have hq1 : q + 1 < xs.length + 1 := by omega
              have s0 : wr.cell? ⟨cb, q + 1, none⟩ = some (.bool false) := by rw [HBB.out.cell, bools_get hq1, hcf]
              have sf := HBB.out.free (q + 1)
              have a0 : wr.cell? ⟨tb, q + 1, none⟩ = some (.int .i64 (atO xs q)) := by
                rw [HBA.out.cell, intsA_get hq1]
                unfold atA
                rw [if_pos (by omega), show q + 1 - 1 = q by omega]
              have hlq : lt ≤ atO xs q := by
                have := HLT.out (D[j]'hjD) (by rw [List.drop_eq_getElem_cons hjD]; exact List.mem_cons_self)
                rw [hqe] at this
                exact this
              have hqN' : atO xs q ≤ N' := by rw [hqe] at hqN; exact hqN
              have HNX : Hid (∀ s ∈ D.drop (j + 1), atO xs q ≤ s.1) := Lib.hid (fun s hs => by
                obtain ⟨i2, hi2, rfl⟩ := List.getElem_of_mem hs
                rw [List.getElem_drop]
                rw [List.length_drop] at hi2
                have := List.pairwise_iff_getElem.1 HDS.out j (j + 1 + i2) hjD (by omega) (by omega)
                rw [hqe, Ag.soon_iff] at this
                rcases this with h | h
                · exact Int.le_of_lt h
                · exact Int.le_of_eq h.1)
              have HBB' := Lib.hid (HBB.out.set (q + 1) (.bool true))
              rw [bools_set, bools_congr (d := cameK xs T (D.take (j + 1))) (fun i2 _ => by rw [HTK.out]; exact (cameK_snoc xs T (D.take j) (itO xs q) (q + 1) rfl i2).symm)] at HBB'
              have hms : Mod wr (wr.setCell ⟨cb, q + 1, none⟩ (.bool true)) [cb] := (Mod.refl wr [cb]).setCell (p := ⟨cb, q + 1, none⟩) (.inl (by simp)) (.bool true)
              have HN' := Lib.hid (HN.out.far HBB.out hcb (by decide) (by rintro (h | h) <;> revert h <;> decide) hms)
              have HBA' := Lib.hid (HBA.out.mod hms (by rw [List.mem_singleton]; rintro rfl; have := blk_uni HBA.out HBB.out; revert this; decide))
              have HOU' := Lib.hid (HOU.out.kp (KpO.far HBB.out (by decide) (by decide) hms))
              have a1 : (wr.setCell ⟨cb, q + 1, none⟩ (.bool true)).cell? ⟨tb, q + 1, none⟩ = some (.int .i64 (atO xs q)) := by rw [HBA'.out.cell, ← HBA.out.cell]; exact a0
              have hqi : ¬ ((q : Int) + 1 < 1) := by omega
              have hqj : ¬ ((xs.length : Int) + 1 ≤ (q : Int) + 1) := by omega
              have hqk : ¬ (N' < atO xs q) := by omega
              have hql : ¬ (atO xs q < lt) := by omega
              clear hcs hm hqe hcf hms HN HBA HBB HOU HLT HTK hqT
              generalize atO xs q = at_ at *
              go_wp2_with fail
              go_roundw
              case rel => exact ⟨j + 1, _, rfl, by go_num, by omega, HNX.out, HN'.out, HBA'.out, HBB'.out, HOU'.out⟩
              case measure => simp [intOf]; omega
            · obtain rfl : j = os.length := by omega
              have HBZ : Hid (Blk wr cb (bools (xs.length + 1) (cameT xs N')) 4) := Lib.hid (by
                have h := HBB.out
                rw [List.take_of_length_le (by rw [HOL.out]; exact Nat.le_refl _), bools_congr (fun i2 hi2 => HCA.out i2 hi2)] at h
                exact h)
              clear HBB HOU HLT HDM HDI HDS HX5 HCA
              go_wp2_with fail
              obtain ⟨wz, rfl⟩ : ∃ wz, wz = wr := ⟨_, rfl⟩
              go_loopw [18] (fun vi wr => ∃ i : Nat, vi = .int .i64 (i : Int) ∧ 1 ≤ i ∧ i ≤ xs.length + 1 ∧ wr = wz) (fun vi _ => xs.length + 2 - (intOf vi).toNat)
              case atStart => exact ⟨1, rfl, by omega, by omega, rfl⟩
              case round =>
                obtain ⟨i, rfl, hi1, hi2, rfl⟩ := hrel
                by_cases hii : i < xs.length + 1
                · have hii' : (i : Int) < xs.length + 1 := by omega
                  have s0 : wr.cell? ⟨cb, i, none⟩ = some (.bool (cameT xs N' i)) := by rw [HBZ.out.cell, bools_get hii]
                  have a0 : wr.cell? ⟨tb, i, none⟩ = some (.int .i64 (atO xs (i - 1))) := by
                    rw [HBA.out.cell, intsA_get hii]
                    unfold atA
                    rw [if_pos (by omega)]
                  by_cases hc : atO xs (i - 1) ≤ N'
                  · have hct : cameT xs N' i = true := by unfold cameT; rw [decide_eq_true hi1, decide_eq_true hc]; rfl
                    rw [hct] at s0
                    clear hct
                    generalize atO xs (i - 1) = at_ at *
                    go_wp2_with fail
                    go_roundw
                    case rel => exact ⟨i + 1, by go_num, by omega, by omega, by first | rfl | trivial⟩
                    case measure => simp [intOf]; omega
                  · have hct : cameT xs N' i = false := by unfold cameT; rw [decide_eq_true hi1, decide_eq_false hc]; rfl
                    rw [hct] at s0
                    clear hct
                    generalize atO xs (i - 1) = at_ at *
                    go_wp2_with fail
                    go_roundw
                    case rel => exact ⟨i + 1, by go_num, by omega, by omega, by first | rfl | trivial⟩
                    case measure => simp [intOf]; omega
                · obtain rfl : i = xs.length + 1 := by omega
                  go_wp2_with fail
                  go_roundw
                  case rel => exact ⟨k + 1, N', N', Sn, Mn, rfl, by go_num, by omega, by push_cast; omega, HN.out, HOD, HBA.out, HBZ.out⟩
                  case measure => simp [intOf]; omega
        · have hge : (ys.length : Int) ≤ k := by omega
          have HB := Lib.hid HN.out.md.below0
          go_wp2_with fail
          go_ret
          exact ⟨rfl, HB.out⟩
end Go.Proofs.Ytgmenlfhkhdbdaa.Nt
