/- The law AgendaPlays. (Printed by mkAgM.py.) -/
import Derived.Test.YtceocpohdckkoaaAgL
import Derived.Test.YtceocpohdckkoaaRd
namespace Go.Proofs.Ytceocpohdckkoaa.Ag
open Go.RowKit Mem
set_option linter.unusedSimpArgs false
set_option linter.unusedVariables false
set_option maxRecDepth 100000

abbrev acSh : Open.Sh := .st (.cat (.int .i64) (.cat (.int .i64) (.cat (.int .i64) .nil)))
theorem ac_rd {w : World} {a : Value} (h : Open.Rd w (.sl acSh 24) [a]) : ∃ (l : List It) (ad : Option Addr) (cap : Nat), a = .slice ad l.length cap ∧ l.length ≤ 140737488351232 ∧
    (l = [] ∨ ∃ b off, ad = some ⟨b, off, none⟩ ∧ ∀ i (hi : i < l.length), w.cell? ⟨b, off + i * 3, none⟩ = some (.int .i64 l[i].1) ∧ w.cell? ⟨b, off + i * 3 + 1, none⟩ = some (.int .i64 l[i].2.1) ∧ w.cell? ⟨b, off + i * 3 + 2, none⟩ = some (.int .i64 l[i].2.2)) := by
  obtain ⟨v, rows, hv, ⟨ad, cap, rfl, hc1, hc2, hn, hpos, hcell⟩, hlen, hl1, hrd⟩ := h
  obtain rfl : a = _ := by simpa using hv
  obtain ⟨l, rfl, hl⟩ := Open.rows_map (rows := rows) (fun x : It => [Value.int .i64 x.1, .int .i64 x.2.1, .int .i64 x.2.2]) (fun _ => True) (fun r hr => by
    obtain ⟨x0, y0, rfl, ⟨n0, rfl, w0⟩, x1, y1, rfl, ⟨n1, rfl, w1⟩, x2, y2, rfl, ⟨n2, rfl, w2⟩, rfl⟩ := hrd r hr
    exact ⟨(n0, n1, n2), rfl, trivial⟩)
  refine ⟨l, ad, cap, by simp, by simp at hlen; omega, ?_⟩
  by_cases h0 : l = []
  · exact .inl h0
  · obtain ⟨b, off, rfl⟩ := hpos (by simpa using h0) (by decide)
    refine .inr ⟨b, off, rfl, fun i hi => ?_⟩
    have h := fun c hc => (hcell b off rfl i (by simpa using hi) c hc).1
    simp only [List.getElem_map] at h
    exact ⟨h 0 (by decide), h 1 (by decide), h 2 (by decide)⟩

/-- Both agendas in memory, the reference's in its block. -/
structure Pb (w w' : World) (g rb : Nat) (last : Int) (v : Value) (S : List It) : Prop where
  ag : AgW w w' g last S
  rf : RfAt w' v S
  bl : Blk w' rb #[v, .int .i64 last] 75
theorem Pb.mod {w a b : World} {g rb : Nat} {last : Int} {v : Value} {S : List It} (h : Pb w a g rb last v S) (m : Mod a b []) : Pb w b g rb last v S := ⟨h.ag.mod m, h.rf.mod m, h.bl.mod m (by simp)⟩
theorem Pb.step {w a : World} {g rb : Nat} {last' last0 : Int} {v v0 : Value} {S : List It} (hag : AgW w a g last' S) (hrf : RfAt a v S) (hb : Blk a rb #[v0, .int .i64 last0] 75) (h0 : w.heap.size ≤ rb) :
    Pb w ((a.setCell ⟨rb, 0, none⟩ v).setCell ⟨rb, 1, none⟩ (.int .i64 last')) g rb last' v S := by
  obtain ⟨q1, q2⟩ := two_set (u := v) (v := .int .i64 last') hb
  exact ⟨hag.modT hb (by decide) (by decide) h0 q1, hrf.modT hb (by decide) q1, q2⟩

set_option maxHeartbeats 8000000 in
theorem agendaPlays_calls (w : World) (a : Value) (ha : Open.Rd w (.sl acSh 24) [a]) :
    Calls Try.prog 12 #[a] w fun e w' => e = .returned (.bool true) ∧ Below w.heap.size w w' := by
  obtain ⟨xs, ad, acap, rfl, hal, hac⟩ := ac_rd ha
  have AW := Lib.hid awake_calls
  have NW := Lib.hid new_calls
  have HAC := Lib.hid hac
  have hal' : (xs.length : Int) ≤ 140737488351232 := by omega
  clear ha hac
  go_enter Try.func12, Try.ntmps12
  go_wp2_with fail
  (with_reducible refine (NW.out _).mono ?_)
  rintro e w1 ⟨rfl, hw1, hmw1⟩
  have HP1 : Hid (∃ rb, rb = w1.heap.size ∧ w.heap.size ≤ rb ∧ Pb w (w1.alloc (.cells #[.slice none 0 0, .int .i64 0] 75)) w.heap.size rb 0 (.slice none 0 0) []) := Lib.hid
    ⟨_, rfl, hmw1.size, hw1.mod ((Mod.refl _ _).alloc _), RfAt.nil _, Blk.new _ _ _⟩
  clear hw1 hmw1
  go_wp2_with fail
  obtain ⟨rb, hrb, hrb1, hp⟩ := HP1.out
  rw [← hrb]
  have HP := Lib.hid hp
  have HRB := Lib.hid hrb1
  clear hp hrb hrb1 HP1
  generalize w1.alloc _ = W1 at HP ⊢
  (with_reducible refine (AW.out _).mono ?_)
  rintro e w2 ⟨rfl, hm2⟩
  have HP2 := Lib.hid (HP.out.mod hm2)
  clear hm2 HP
  go_wp2_with fail
  go_loopw [5] (fun vi wr => ∃ (i : Nat) (last : Int) (v : Value) (S : List It), i ≤ xs.length ∧ i ≤ 200 ∧ vi = .int .i64 (i : Int) ∧ 0 ≤ last ∧ last ≤ i ∧ S.length ≤ 4096 ∧ Pb w wr w.heap.size rb last v S) (fun vi _ => 201 - (intOf vi).toNat)
  case atStart => exact ⟨0, 0, _, [], Nat.zero_le _, by omega, rfl, by omega, by omega, by simp, HP2.out⟩
  case round =>
    obtain ⟨i, last, v, S, hi, hi2, rfl, hl0, hl1, hSn, hp⟩ := hrel
    have HP := Lib.hid hp
    obtain ⟨ra, rc, rfl⟩ := hp.rf.slice
    clear hp HP2
    by_cases hgo : i < xs.length ∧ i < 200
    · obtain ⟨hlt, h60⟩ := hgo
      have hlt' : (i : Int) < xs.length := by omega
      have h60' : (i : Int) < 200 := by omega
      obtain ⟨bb, off, rfl, hc⟩ := HAC.out.resolve_left (fun h => by rw [h] at hlt; simp at hlt)
      obtain ⟨d0, d1, d2⟩ := hc i hlt
      have e0 := keepC HP.out.ag.md d0
      have e1 := keepC HP.out.ag.md d1
      have e2 := keepC HP.out.ag.md d2
      have DC := Lib.hid (fun k x1 x2 w' h hr => does_calls w w' w.heap.size last (.slice ra S.length rc) S k x1 x2 h hr ⟨hl0, by omega⟩ hSn)
      have HE : Hid (∀ y, Mod w y [] → y.cell? ⟨bb, off + i * 3, none⟩ = some (.int .i64 xs[i].1) ∧ y.cell? ⟨bb, off + i * 3 + 1, none⟩ = some (.int .i64 xs[i].2.1) ∧ y.cell? ⟨bb, off + i * 3 + 2, none⟩ = some (.int .i64 xs[i].2.2)) := Lib.hid (fun y m => ⟨keepC m d0, keepC m d1, keepC m d2⟩)
      clear hc d0 d1 d2
      generalize xs[i]'hlt = x at *
      obtain ⟨xk, x1, x2⟩ := x
      simp only at e0 e1 e2 HE
      have DC2 : Hid (∀ w', AgW w w' w.heap.size last S → RfAt w' (.slice ra S.length rc) S → Calls Try.prog 37 #[.pointer (some ⟨w.heap.size, 0, none⟩), .agg #[.slice ra S.length rc, .int .i64 last], .agg #[.int .i64 xk, .int .i64 x1, .int .i64 x2]] w' (DoesP w w.heap.size last w')) := Lib.hid (fun w' h hr => DC.out xk x1 x2 w' h hr)
      have b0 := HP.out.bl.cell 0
      have b1 := HP.out.bl.cell 1
      clear DC
      go_wp2_with fail
      refine He.wp_region_e 12 (fun w' => w'.cell? ⟨rb, 0, none⟩ = some (.slice ra S.length rc) ∧ w'.cell? ⟨rb, 1, none⟩ = some (.int .i64 last) ∧ w'.cell? ⟨bb, off + i * 3, none⟩ = some (.int .i64 xk) ∧ w'.cell? ⟨bb, off + i * 3 + 1, none⟩ = some (.int .i64 x1) ∧ w'.cell? ⟨bb, off + i * 3 + 2, none⟩ = some (.int .i64 x2)) (by kernel_rfl) ⟨b0, b1, e0, e1, e2⟩ (fun S0 => ?_)
      have HQ := Lib.hid (HP.out.mod (Mod.refl _ _).drew)
      clear HP b0 b1 e0 e1 e2
      generalize wr.drew = W2 at *
      refine He.wpE_take (i := 0) (v := ?_) rfl (by kernel_rfl) (by kernel_rfl) (by kernel_rfl) (by kernel_rfl) (by kernel_rfl) (fun _ _ _ h => h) (by rfl) ?_ (by assumption) ?_
      rotate_left
      · (intro w' hSw; (try dsimp only at hSw); go_simp; first | done | with_reducible rfl)
      try simp only [List.getElem_toArray, List.getElem_cons_succ, List.getElem_cons_zero, Act.put, List.setIfInBounds_toArray, List.set_cons_zero, List.set_cons_succ]
      refine He.wpE_take (i := 1) (v := ?_) rfl (by kernel_rfl) (by kernel_rfl) (by kernel_rfl) (by kernel_rfl) (by kernel_rfl) (fun _ _ _ h => h) (by rfl) ?_ (by assumption) ?_
      rotate_left
      · (intro w' hSw; (try dsimp only at hSw); go_simp; first | done | with_reducible rfl)
      try simp only [List.getElem_toArray, List.getElem_cons_succ, List.getElem_cons_zero, Act.put, List.setIfInBounds_toArray, List.set_cons_zero, List.set_cons_succ]
      refine He.wpE_take (i := 2) (v := ?_) rfl (by kernel_rfl) (by kernel_rfl) (by kernel_rfl) (by kernel_rfl) (by kernel_rfl) (fun _ _ _ h => h) (by rfl) ?_ (by assumption) ?_
      rotate_left
      · (intro w' hSw; (try dsimp only at hSw); go_simp; first | done | with_reducible rfl)
      try simp only [List.getElem_toArray, List.getElem_cons_succ, List.getElem_cons_zero, Act.put, List.setIfInBounds_toArray, List.set_cons_zero, List.set_cons_succ]
      refine He.wpE_take (i := 3) (v := ?_) rfl (by kernel_rfl) (by kernel_rfl) (by kernel_rfl) (by kernel_rfl) (by kernel_rfl) (fun _ _ _ h => h) (by rfl) ?_ (by assumption) ?_
      rotate_left
      · (intro w' hSw; (try dsimp only at hSw); go_simp; first | done | with_reducible rfl)
      try simp only [List.getElem_toArray, List.getElem_cons_succ, List.getElem_cons_zero, Act.put, List.setIfInBounds_toArray, List.set_cons_zero, List.set_cons_succ]
      refine He.wpE_take (i := 4) (v := ?_) rfl (by kernel_rfl) (by kernel_rfl) (by kernel_rfl) (by kernel_rfl) (by kernel_rfl) (fun _ _ _ h => h) (by rfl) ?_ (by assumption) ?_
      rotate_left
      · (intro w' hSw; (try dsimp only at hSw); go_simp; first | done | with_reducible rfl)
      try simp only [List.getElem_toArray, List.getElem_cons_succ, List.getElem_cons_zero, Act.put, List.setIfInBounds_toArray, List.set_cons_zero, List.set_cons_succ]
      refine He.wpE_take (i := 5) (v := ?_) rfl (by kernel_rfl) (by kernel_rfl) (by kernel_rfl) (by kernel_rfl) (by kernel_rfl) (fun _ _ _ h => h) (by rfl) ?_ (by assumption) ?_
      rotate_left
      · (intro w' hSw; (try dsimp only at hSw); go_simp; first | done | with_reducible rfl)
      try simp only [List.getElem_toArray, List.getElem_cons_succ, List.getElem_cons_zero, Act.put, List.setIfInBounds_toArray, List.set_cons_zero, List.set_cons_succ]
      refine He.wpE_two (i := 6) (j := 10) (by kernel_rfl) rfl rfl (by rfl) (by rfl) (fun K hK => ?_) (fun K hK => ?_)
      · go_simp
        (with_reducible refine (DC2.out _ HQ.out.ag HQ.out.rf).mono ?_)
        rintro e w3 ⟨v', last', S', rfl, ha3, hr3, hk3, hq1, hq2, hS'⟩
        obtain ⟨a', c', rfl⟩ := hr3.slice
        have HB3 := Lib.hid (hk3 _ _ _ (by decide) (by decide) HQ.out.bl)
        have HA3 := Lib.hid ha3
        have HR3 := Lib.hid hr3
        have S1 : w3.cell? ⟨rb, 0, none⟩ = some (.slice ra S.length rc) ∧ w3.cell? ⟨rb, 1, none⟩ = some (.int .i64 last) ∧ w3.cell? ⟨bb, off + i * 3, none⟩ = some (.int .i64 xk) ∧ w3.cell? ⟨bb, off + i * 3 + 1, none⟩ = some (.int .i64 x1) ∧ w3.cell? ⟨bb, off + i * 3 + 2, none⟩ = some (.int .i64 x2) := ⟨HB3.out.cell 0, HB3.out.cell 1, HE.out _ ha3.md⟩
        clear ha3 hr3 hk3 HQ
        refine hK.out _ _ (fun _ => S1) ?_
        clear hK K
        try simp only [Act.put, List.setIfInBounds_toArray, List.set_cons_zero, List.set_cons_succ]
        unfold agV
        refine He.wpE_take (i := 7) (v := ?_) rfl (by kernel_rfl) (by kernel_rfl) (by kernel_rfl) (by kernel_rfl) (by kernel_rfl) (fun _ _ _ h => h) (by rfl) ?_ (by assumption) ?_
        rotate_left
        · (intro w' hSw; (try dsimp only at hSw); go_simp; first | done | with_reducible rfl)
        try simp only [List.getElem_toArray, List.getElem_cons_succ, List.getElem_cons_zero, Act.put, List.setIfInBounds_toArray, List.set_cons_zero, List.set_cons_succ]
        refine He.wpE_take (i := 8) (v := ?_) rfl (by kernel_rfl) (by kernel_rfl) (by kernel_rfl) (by kernel_rfl) (by kernel_rfl) (fun _ _ _ h => h) (by rfl) ?_ (by assumption) ?_
        rotate_left
        · (intro w' hSw; (try dsimp only at hSw); go_simp; first | done | with_reducible rfl)
        try simp only [List.getElem_toArray, List.getElem_cons_succ, List.getElem_cons_zero, Act.put, List.setIfInBounds_toArray, List.set_cons_zero, List.set_cons_succ]
        refine He.wpE_take (i := 9) (v := ?_) rfl (by kernel_rfl) (by kernel_rfl) (by kernel_rfl) (by kernel_rfl) (by kernel_rfl) (fun _ _ _ h => h) (by rfl) ?_ (by assumption) ?_
        rotate_left
        · (intro w' hSw; (try dsimp only at hSw); go_simp; first | done | with_reducible rfl)
        try simp only [List.getElem_toArray, List.getElem_cons_succ, List.getElem_cons_zero, Act.put, List.setIfInBounds_toArray, List.set_cons_zero, List.set_cons_succ]
        refine He.wpE_one (i := 10) (by kernel_rfl) rfl (by rfl) (fun K hK => ?_)
        go_simp
        have hm4 := (Mod.refl w3 []).alloc (.cells #[.slice none 0 0, .int .i64 0] 75)
        have HN4 := Lib.hid (Blk.new w3 #[.slice none 0 0, .int .i64 0] 75)
        have HB3L := Lib.hid HB3.out.lt
        have HB4 := Lib.hid (HB3.out.mod hm4 (by simp))
        have HA4 := Lib.hid (HA3.out.mod hm4)
        have HR4 := Lib.hid (HR3.out.mod hm4)
        have S2 : (w3.alloc (.cells #[.slice none 0 0, .int .i64 0] 75)).cell? ⟨rb, 0, none⟩ = some (.slice ra S.length rc) ∧ (w3.alloc (.cells #[.slice none 0 0, .int .i64 0] 75)).cell? ⟨rb, 1, none⟩ = some (.int .i64 last) ∧ (w3.alloc (.cells #[.slice none 0 0, .int .i64 0] 75)).cell? ⟨bb, off + i * 3, none⟩ = some (.int .i64 xk) ∧ (w3.alloc (.cells #[.slice none 0 0, .int .i64 0] 75)).cell? ⟨bb, off + i * 3 + 1, none⟩ = some (.int .i64 x1) ∧ (w3.alloc (.cells #[.slice none 0 0, .int .i64 0] 75)).cell? ⟨bb, off + i * 3 + 2, none⟩ = some (.int .i64 x2) := ⟨HB4.out.cell 0, HB4.out.cell 1, HE.out _ HA4.out.md⟩
        have HSZ := Lib.hid HA3.out.md.size
        clear hm4 HB3 HA3 HR3 S1
        refine hK.out _ _ (fun _ => S2) ?_
        clear hK K
        try simp only [Act.put, List.setIfInBounds_toArray, List.set_cons_zero, List.set_cons_succ]
        generalize w3.alloc _ = w4 at *
        have hnb : rb ≠ w3.heap.size := by
          intro e
          have h1 := HB3L.out
          omega
        obtain ⟨nb, hnbe⟩ : ∃ nb, nb = w3.heap.size := ⟨_, rfl⟩
        rw [← hnbe] at HN4 hnb ⊢
        have HNW : Hid (w.heap.size ≤ nb) := Lib.hid (by rw [hnbe]; exact HSZ.out)
        clear hnbe HB3L HSZ
        have n0 := HN4.out.cell 0
        have n1 := HN4.out.cell 1
        have n2 := HN4.out.free 0
        have n3 := HN4.out.free 1
        have n4 := HN4.out.lt
        refine He.wpE_one (i := 11) (by kernel_rfl) rfl (by rfl) (fun K hK => ?_)
        go_simp
        obtain ⟨hms, hnn⟩ := two_set (u := .slice a' S'.length c') (v := .int .i64 last') HN4.out
        have HNN := Lib.hid hnn
        have hnbw : w.heap.size ≤ nb := HNW.out
        have HA5 := Lib.hid (HA4.out.modT HN4.out (by decide) (by decide) hnbw hms)
        have HR5 := Lib.hid (HR4.out.modT HN4.out (by decide) hms)
        have HB5 := Lib.hid (HB4.out.mod hms (by simpa using hnb))
        have S3 := And.intro (HB5.out.cell 0) (And.intro (HB5.out.cell 1) (HE.out _ HA5.out.md))
        clear hms hnn n0 n1 n2 n3 n4 S2 HA4 HR4 HB4 HN4
        refine hK.out _ _ (fun _ => S3) ?_
        clear hK K
        generalize World.setCell (World.setCell w4 _ _) _ _ = w5 at *
        try simp only [Act.put, List.setIfInBounds_toArray, List.set_cons_zero, List.set_cons_succ]
        refine He.wpE_take (i := 12) (v := ?_) rfl (by kernel_rfl) (by kernel_rfl) (by kernel_rfl) (by kernel_rfl) (by kernel_rfl) (fun _ _ _ h => h) (by rfl) ?_ (by assumption) ?_
        rotate_left
        · (intro w' hSw; (try dsimp only at hSw); go_simp; first | done | with_reducible rfl)
        try simp only [List.getElem_toArray, List.getElem_cons_succ, List.getElem_cons_zero, Act.put, List.setIfInBounds_toArray, List.set_cons_zero, List.set_cons_succ]
        refine He.wpE_done (by kernel_rfl) ?_
        clear S3 DC2 HE
        try simp only [Act.put, List.setIfInBounds_toArray, List.set_cons_zero, List.set_cons_succ]
        have n0 := HNN.out.cell 0
        have n1 := HNN.out.cell 1
        have b0 := HB5.out.cell 0
        have b1 := HB5.out.cell 1
        have b2 := HB5.out.free 0
        have b3 := HB5.out.free 1
        have b4 := HB5.out.lt
        have HP6 := Lib.hid (Pb.step HA5.out HR5.out HB5.out HRB.out)
        clear HA5 HR5 HB5 HNN hnb hnbw HNW
        go_wp2_with fail
        generalize World.setCell (World.setCell w5 _ _) _ _ = w6 at *
        clear n0 n1 b0 b1 b2 b3 b4
        have LC := Lib.hid (fun w' h => alen_calls w w' w.heap.size last' S' h)
        have AC := Lib.hid (fun w' h => all_calls w w' w.heap.size last' S' h hS')
        have RF := Lib.hid (fun base v w h => refs_calls base v S' w h (by omega))
        have SC := Lib.hid (fun v1 v2 w h1 h2 => same_calls v1 v2 S' S' w h1 h2 (by omega) (by omega))
        rw [decide_eq_true (rfl : S' = S')] at SC
        have hNN : ((S'.length : Int) != (S'.length : Int)) = false := by simp
        refine He.wp_region_e 18 (fun w' => w'.cell? ⟨rb, 0, none⟩ = some (.slice a' S'.length c')) (by kernel_rfl) (HP6.out.bl.cell 0) (fun S0' => ?_)
        have HQ := Lib.hid (HP6.out.mod (Mod.refl _ _).drew)
        clear HP6
        generalize w6.drew = w7 at *
        refine He.wpE_take (i := 0) (v := ?_) rfl (by kernel_rfl) (by kernel_rfl) (by kernel_rfl) (by kernel_rfl) (by kernel_rfl) (fun _ _ _ h => h) (by rfl) ?_ (by assumption) ?_
        rotate_left
        · (intro w' hSw; (try dsimp only at hSw); go_simp; first | done | with_reducible rfl)
        try simp only [List.getElem_toArray, List.getElem_cons_succ, List.getElem_cons_zero, Act.put, List.setIfInBounds_toArray, List.set_cons_zero, List.set_cons_succ]
        refine He.wpE_take (i := 1) (v := ?_) rfl (by kernel_rfl) (by kernel_rfl) (by kernel_rfl) (by kernel_rfl) (by kernel_rfl) (fun _ _ _ h => h) (by rfl) ?_ (by assumption) ?_
        rotate_left
        · (intro w' hSw; (try dsimp only at hSw); go_simp; first | done | with_reducible rfl)
        try simp only [List.getElem_toArray, List.getElem_cons_succ, List.getElem_cons_zero, Act.put, List.setIfInBounds_toArray, List.set_cons_zero, List.set_cons_succ]
        refine He.wpE_take (i := 2) (v := ?_) rfl (by kernel_rfl) (by kernel_rfl) (by kernel_rfl) (by kernel_rfl) (by kernel_rfl) (fun _ _ _ h => h) (by rfl) ?_ (by assumption) ?_
        rotate_left
        · (intro w' hSw; (try dsimp only at hSw); go_simp; first | done | with_reducible rfl)
        try simp only [List.getElem_toArray, List.getElem_cons_succ, List.getElem_cons_zero, Act.put, List.setIfInBounds_toArray, List.set_cons_zero, List.set_cons_succ]
        refine He.wpE_take (i := 3) (v := ?_) rfl (by kernel_rfl) (by kernel_rfl) (by kernel_rfl) (by kernel_rfl) (by kernel_rfl) (fun _ _ _ h => h) (by rfl) ?_ (by assumption) ?_
        rotate_left
        · (intro w' hSw; (try dsimp only at hSw); go_simp; first | done | with_reducible rfl)
        try simp only [List.getElem_toArray, List.getElem_cons_succ, List.getElem_cons_zero, Act.put, List.setIfInBounds_toArray, List.set_cons_zero, List.set_cons_succ]
        refine He.wpE_take (i := 5) (v := ?_) rfl (by kernel_rfl) (by kernel_rfl) (by kernel_rfl) (by kernel_rfl) (by kernel_rfl) (fun _ _ _ h => h) (by rfl) ?_ (by assumption) ?_
        rotate_left
        · (intro w' hSw; (try dsimp only at hSw); go_simp; first | done | with_reducible rfl)
        try simp only [List.getElem_toArray, List.getElem_cons_succ, List.getElem_cons_zero, Act.put, List.setIfInBounds_toArray, List.set_cons_zero, List.set_cons_succ]
        refine He.wpE_take (i := 6) (v := ?_) rfl (by kernel_rfl) (by kernel_rfl) (by kernel_rfl) (by kernel_rfl) (by kernel_rfl) (fun _ _ _ h => h) (by rfl) ?_ (by assumption) ?_
        rotate_left
        · (intro w' hSw; (try dsimp only at hSw); go_simp; first | done | with_reducible rfl)
        try simp only [List.getElem_toArray, List.getElem_cons_succ, List.getElem_cons_zero, Act.put, List.setIfInBounds_toArray, List.set_cons_zero, List.set_cons_succ]
        refine He.wpE_take (i := 7) (v := ?_) rfl (by kernel_rfl) (by kernel_rfl) (by kernel_rfl) (by kernel_rfl) (by kernel_rfl) (fun _ _ _ h => h) (by rfl) ?_ (by assumption) ?_
        rotate_left
        · (intro w' hSw; (try dsimp only at hSw); go_simp; first | done | with_reducible rfl)
        try simp only [List.getElem_toArray, List.getElem_cons_succ, List.getElem_cons_zero, Act.put, List.setIfInBounds_toArray, List.set_cons_zero, List.set_cons_succ]
        refine He.wpE_one (i := 4) (by kernel_rfl) rfl (by rfl) (fun K hK => ?_)
        go_simp
        (with_reducible refine (LC.out _ HQ.out.ag).mono ?_)
        rintro e z1 ⟨rfl, rfl⟩
        refine hK.out _ _ (fun _ => S0') ?_
        clear hK K LC
        try simp only [Act.put, List.setIfInBounds_toArray, List.set_cons_zero, List.set_cons_succ]
        refine He.wpE_take (i := 8) (v := ?_) rfl (by kernel_rfl) (by kernel_rfl) (by kernel_rfl) (by kernel_rfl) (by kernel_rfl) (fun _ _ _ h => h) (by rfl) ?_ (by assumption) ?_
        rotate_left
        · (intro w' hSw; (try dsimp only at hSw); go_simp; first | done | with_reducible rfl)
        try simp only [List.getElem_toArray, List.getElem_cons_succ, List.getElem_cons_zero, Act.put, List.setIfInBounds_toArray, List.set_cons_zero, List.set_cons_succ]
        refine He.wpE_take (i := 9) (v := ?_) rfl (by kernel_rfl) (by kernel_rfl) (by kernel_rfl) (by kernel_rfl) (by kernel_rfl) (fun _ _ _ h => h) (by rfl) ?_ (by assumption) ?_
        rotate_left
        · (intro w' hSw; (try dsimp only at hSw); go_simp; first | done | with_reducible rfl)
        try simp only [List.getElem_toArray, List.getElem_cons_succ, List.getElem_cons_zero, Act.put, List.setIfInBounds_toArray, List.set_cons_zero, List.set_cons_succ]
        refine He.wpE_take (i := 10) (v := ?_) rfl (by kernel_rfl) (by kernel_rfl) (by kernel_rfl) (by kernel_rfl) (by kernel_rfl) (fun _ _ _ h => h) (by rfl) ?_ (by assumption) ?_
        rotate_left
        · (intro w' hSw; (try dsimp only at hSw); go_simp; first | done | with_reducible rfl)
        try simp only [List.getElem_toArray, List.getElem_cons_succ, List.getElem_cons_zero, Act.put, List.setIfInBounds_toArray, List.set_cons_zero, List.set_cons_succ]
        refine He.wpE_take (i := 11) (v := ?_) rfl (by kernel_rfl) (by kernel_rfl) (by kernel_rfl) (by kernel_rfl) (by kernel_rfl) (fun _ _ _ h => h) (by rfl) ?_ (by assumption) ?_
        rotate_left
        · (intro w' hSw; (try dsimp only at hSw); go_simp; first | done | with_reducible rfl)
        try simp only [List.getElem_toArray, List.getElem_cons_succ, List.getElem_cons_zero, Act.put, List.setIfInBounds_toArray, List.set_cons_zero, List.set_cons_succ]
        refine He.wpE_take (i := 14) (v := ?_) rfl (by kernel_rfl) (by kernel_rfl) (by kernel_rfl) (by kernel_rfl) (by kernel_rfl) (fun _ _ _ h => h) (by rfl) ?_ (by assumption) ?_
        rotate_left
        · (intro w' hSw; (try dsimp only at hSw); go_simp; first | done | with_reducible rfl)
        try simp only [List.getElem_toArray, List.getElem_cons_succ, List.getElem_cons_zero, Act.put, List.setIfInBounds_toArray, List.set_cons_zero, List.set_cons_succ]
        refine He.wpE_take (i := 15) (v := ?_) rfl (by kernel_rfl) (by kernel_rfl) (by kernel_rfl) (by kernel_rfl) (by kernel_rfl) (fun _ _ _ h => h) (by rfl) ?_ (by assumption) ?_
        rotate_left
        · (intro w' hSw; (try dsimp only at hSw); go_simp; first | done | with_reducible rfl)
        try simp only [List.getElem_toArray, List.getElem_cons_succ, List.getElem_cons_zero, Act.put, List.setIfInBounds_toArray, List.set_cons_zero, List.set_cons_succ]
        refine He.wpE_one (i := 12) (by kernel_rfl) rfl (by rfl) (fun K hK => ?_)
        go_simp
        refine (AC.out _ HQ.out.ag).mono ?_
        rintro e z2 ⟨v2, rfl, hmz, hr2⟩
        have HZ2 := Lib.hid (HQ.out.mod hmz)
        have Sz2 : z2.cell? ⟨rb, 0, none⟩ = some (.slice a' S'.length c') := HZ2.out.bl.cell 0
        have HI2 := Lib.hid hr2
        clear hr2 AC HQ
        refine hK.out _ _ (fun _ => Sz2) ?_
        clear hK K hmz
        try simp only [Act.put, List.setIfInBounds_toArray, List.set_cons_zero, List.set_cons_succ]
        refine He.wpE_one (i := 13) (by kernel_rfl) rfl (by rfl) (fun K hK => ?_)
        go_simp
        refine (RF.out _ _ _ HI2.out).mono ?_
        rintro e z3 ⟨v3, rfl, hmz, hr3⟩
        have HZ3 := Lib.hid (HZ2.out.mod hmz)
        have Sz3 : z3.cell? ⟨rb, 0, none⟩ = some (.slice a' S'.length c') := HZ3.out.bl.cell 0
        have HI3 := Lib.hid hr3.rf
        clear hr3 RF HZ2 HI2 Sz2
        refine hK.out _ _ (fun _ => Sz3) ?_
        clear hK K hmz
        try simp only [Act.put, List.setIfInBounds_toArray, List.set_cons_zero, List.set_cons_succ]
        refine He.wpE_one (i := 16) (by kernel_rfl) rfl (by rfl) (fun K hK => ?_)
        go_simp
        refine (SC.out _ _ _ HI3.out HZ3.out.rf).mono ?_
        rintro e z4 ⟨rfl, hmz⟩
        have HZ4 := Lib.hid (HZ3.out.mod hmz)
        have Sz4 : z4.cell? ⟨rb, 0, none⟩ = some (.slice a' S'.length c') := HZ4.out.bl.cell 0
        clear SC HI3 HZ3 Sz3
        refine hK.out _ _ (fun _ => Sz4) ?_
        clear hK K hmz
        try simp only [Act.put, List.setIfInBounds_toArray, List.set_cons_zero, List.set_cons_succ]
        refine He.wpE_take (i := 17) (v := ?_) rfl (by kernel_rfl) (by kernel_rfl) (by kernel_rfl) (by kernel_rfl) (by kernel_rfl) (fun _ _ _ h => h) (by rfl) ?_ (by assumption) ?_
        rotate_left
        · (intro w' hSw; (try dsimp only at hSw); go_simp; first | done | with_reducible rfl)
        try simp only [List.getElem_toArray, List.getElem_cons_succ, List.getElem_cons_zero, Act.put, List.setIfInBounds_toArray, List.set_cons_zero, List.set_cons_succ]
        refine He.wpE_take (i := 18) (v := ?_) rfl (by kernel_rfl) (by kernel_rfl) (by kernel_rfl) (by kernel_rfl) (by kernel_rfl) (fun _ _ _ h => h) (by rfl) ?_ (by assumption) ?_
        rotate_left
        · (intro w' hSw; (try dsimp only at hSw); go_simp; first | done | with_reducible rfl)
        try simp only [List.getElem_toArray, List.getElem_cons_succ, List.getElem_cons_zero, Act.put, List.setIfInBounds_toArray, List.set_cons_zero, List.set_cons_succ]
        refine He.wpE_done (by kernel_rfl) ?_
        try simp only [Act.put, List.setIfInBounds_toArray, List.set_cons_zero, List.set_cons_succ]
        go_wp2_with fail
        go_roundw
        case rel => exact ⟨i + 1, last', _, S', by omega, by omega, by go_num, by omega, by omega, hS', HZ4.out⟩
        case measure => simp [intOf]; omega
      · go_simp
        have hm3 := (Mod.refl W2 []).alloc (.cells #[.slice none 0 0, .int .i64 0] 75)
        have HN3 := Lib.hid (Blk.new W2 #[.slice none 0 0, .int .i64 0] 75)
        have HQ3 := Lib.hid (HQ.out.mod hm3)
        have hnb : rb ≠ W2.heap.size := by have := HQ.out.bl.lt; omega
        have S1 : (W2.alloc (.cells #[.slice none 0 0, .int .i64 0] 75)).cell? ⟨rb, 0, none⟩ = some (.slice ra S.length rc) ∧ (W2.alloc (.cells #[.slice none 0 0, .int .i64 0] 75)).cell? ⟨rb, 1, none⟩ = some (.int .i64 last) ∧ (W2.alloc (.cells #[.slice none 0 0, .int .i64 0] 75)).cell? ⟨bb, off + i * 3, none⟩ = some (.int .i64 xk) ∧ (W2.alloc (.cells #[.slice none 0 0, .int .i64 0] 75)).cell? ⟨bb, off + i * 3 + 1, none⟩ = some (.int .i64 x1) ∧ (W2.alloc (.cells #[.slice none 0 0, .int .i64 0] 75)).cell? ⟨bb, off + i * 3 + 2, none⟩ = some (.int .i64 x2) := ⟨HQ3.out.bl.cell 0, HQ3.out.bl.cell 1, HE.out _ HQ3.out.ag.md⟩
        have HSZ := Lib.hid HQ.out.ag.md.size
        clear hm3 HQ
        refine hK.out _ _ (fun _ => S1) ?_
        clear hK K
        try simp only [Act.put, List.setIfInBounds_toArray, List.set_cons_zero, List.set_cons_succ]
        obtain ⟨nb, hnbe⟩ : ∃ nb, nb = W2.heap.size := ⟨_, rfl⟩
        rw [← hnbe] at HN3 hnb ⊢
        generalize W2.alloc _ = w3 at *
        have HNW : Hid (w.heap.size ≤ nb) := Lib.hid (by rw [hnbe]; exact HSZ.out)
        clear hnbe HSZ
        refine He.wpE_one (i := 6) (by kernel_rfl) rfl (by rfl) (fun K hK => ?_)
        go_simp
        (with_reducible refine (DC2.out _ HQ3.out.ag HQ3.out.rf).mono ?_)
        rintro e w4 ⟨v', last', S', rfl, ha3, hr3, hk3, hq1, hq2, hS'⟩
        obtain ⟨a', c', rfl⟩ := hr3.slice
        have HB4 := Lib.hid (hk3 _ _ _ (by decide) (by decide) HQ3.out.bl)
        have HN4 := Lib.hid (hk3 _ _ _ (by decide) (by decide) HN3.out)
        have HA4 := Lib.hid ha3
        have HR4 := Lib.hid hr3
        have S2 : w4.cell? ⟨rb, 0, none⟩ = some (.slice ra S.length rc) ∧ w4.cell? ⟨rb, 1, none⟩ = some (.int .i64 last) ∧ w4.cell? ⟨bb, off + i * 3, none⟩ = some (.int .i64 xk) ∧ w4.cell? ⟨bb, off + i * 3 + 1, none⟩ = some (.int .i64 x1) ∧ w4.cell? ⟨bb, off + i * 3 + 2, none⟩ = some (.int .i64 x2) := ⟨HB4.out.cell 0, HB4.out.cell 1, HE.out _ ha3.md⟩
        clear ha3 hr3 hk3 HQ3 HN3 S1
        refine hK.out _ _ (fun _ => S2) ?_
        clear hK K
        try simp only [Act.put, List.setIfInBounds_toArray, List.set_cons_zero, List.set_cons_succ]
        unfold agV
        refine He.wpE_take (i := 7) (v := ?_) rfl (by kernel_rfl) (by kernel_rfl) (by kernel_rfl) (by kernel_rfl) (by kernel_rfl) (fun _ _ _ h => h) (by rfl) ?_ (by assumption) ?_
        rotate_left
        · (intro w' hSw; (try dsimp only at hSw); go_simp; first | done | with_reducible rfl)
        try simp only [List.getElem_toArray, List.getElem_cons_succ, List.getElem_cons_zero, Act.put, List.setIfInBounds_toArray, List.set_cons_zero, List.set_cons_succ]
        refine He.wpE_take (i := 8) (v := ?_) rfl (by kernel_rfl) (by kernel_rfl) (by kernel_rfl) (by kernel_rfl) (by kernel_rfl) (fun _ _ _ h => h) (by rfl) ?_ (by assumption) ?_
        rotate_left
        · (intro w' hSw; (try dsimp only at hSw); go_simp; first | done | with_reducible rfl)
        try simp only [List.getElem_toArray, List.getElem_cons_succ, List.getElem_cons_zero, Act.put, List.setIfInBounds_toArray, List.set_cons_zero, List.set_cons_succ]
        refine He.wpE_take (i := 9) (v := ?_) rfl (by kernel_rfl) (by kernel_rfl) (by kernel_rfl) (by kernel_rfl) (by kernel_rfl) (fun _ _ _ h => h) (by rfl) ?_ (by assumption) ?_
        rotate_left
        · (intro w' hSw; (try dsimp only at hSw); go_simp; first | done | with_reducible rfl)
        try simp only [List.getElem_toArray, List.getElem_cons_succ, List.getElem_cons_zero, Act.put, List.setIfInBounds_toArray, List.set_cons_zero, List.set_cons_succ]
        have n0 := HN4.out.cell 0
        have n1 := HN4.out.cell 1
        have n2 := HN4.out.free 0
        have n3 := HN4.out.free 1
        have n4 := HN4.out.lt
        refine He.wpE_one (i := 11) (by kernel_rfl) rfl (by rfl) (fun K hK => ?_)
        go_simp
        obtain ⟨hms, hnn⟩ := two_set (u := .slice a' S'.length c') (v := .int .i64 last') HN4.out
        have HNN := Lib.hid hnn
        have hnbw : w.heap.size ≤ nb := HNW.out
        have HA5 := Lib.hid (HA4.out.modT HN4.out (by decide) (by decide) hnbw hms)
        have HR5 := Lib.hid (HR4.out.modT HN4.out (by decide) hms)
        have HB5 := Lib.hid (HB4.out.mod hms (by simpa using hnb))
        have S3 := And.intro (HB5.out.cell 0) (And.intro (HB5.out.cell 1) (HE.out _ HA5.out.md))
        clear hms hnn n0 n1 n2 n3 n4 S2 HA4 HR4 HB4 HN4
        refine hK.out _ _ (fun _ => S3) ?_
        clear hK K
        generalize World.setCell (World.setCell w4 _ _) _ _ = w5 at *
        try simp only [Act.put, List.setIfInBounds_toArray, List.set_cons_zero, List.set_cons_succ]
        refine He.wpE_take (i := 12) (v := ?_) rfl (by kernel_rfl) (by kernel_rfl) (by kernel_rfl) (by kernel_rfl) (by kernel_rfl) (fun _ _ _ h => h) (by rfl) ?_ (by assumption) ?_
        rotate_left
        · (intro w' hSw; (try dsimp only at hSw); go_simp; first | done | with_reducible rfl)
        try simp only [List.getElem_toArray, List.getElem_cons_succ, List.getElem_cons_zero, Act.put, List.setIfInBounds_toArray, List.set_cons_zero, List.set_cons_succ]
        refine He.wpE_done (by kernel_rfl) ?_
        clear S3 DC2 HE
        try simp only [Act.put, List.setIfInBounds_toArray, List.set_cons_zero, List.set_cons_succ]
        have n0 := HNN.out.cell 0
        have n1 := HNN.out.cell 1
        have b0 := HB5.out.cell 0
        have b1 := HB5.out.cell 1
        have b2 := HB5.out.free 0
        have b3 := HB5.out.free 1
        have b4 := HB5.out.lt
        have HP6 := Lib.hid (Pb.step HA5.out HR5.out HB5.out HRB.out)
        clear HA5 HR5 HB5 HNN hnb hnbw HNW
        go_wp2_with fail
        generalize World.setCell (World.setCell w5 _ _) _ _ = w6 at *
        clear n0 n1 b0 b1 b2 b3 b4
        have LC := Lib.hid (fun w' h => alen_calls w w' w.heap.size last' S' h)
        have AC := Lib.hid (fun w' h => all_calls w w' w.heap.size last' S' h hS')
        have RF := Lib.hid (fun base v w h => refs_calls base v S' w h (by omega))
        have SC := Lib.hid (fun v1 v2 w h1 h2 => same_calls v1 v2 S' S' w h1 h2 (by omega) (by omega))
        rw [decide_eq_true (rfl : S' = S')] at SC
        have hNN : ((S'.length : Int) != (S'.length : Int)) = false := by simp
        refine He.wp_region_e 18 (fun w' => w'.cell? ⟨rb, 0, none⟩ = some (.slice a' S'.length c')) (by kernel_rfl) (HP6.out.bl.cell 0) (fun S0' => ?_)
        have HQ := Lib.hid (HP6.out.mod (Mod.refl _ _).drew)
        clear HP6
        generalize w6.drew = w7 at *
        refine He.wpE_take (i := 0) (v := ?_) rfl (by kernel_rfl) (by kernel_rfl) (by kernel_rfl) (by kernel_rfl) (by kernel_rfl) (fun _ _ _ h => h) (by rfl) ?_ (by assumption) ?_
        rotate_left
        · (intro w' hSw; (try dsimp only at hSw); go_simp; first | done | with_reducible rfl)
        try simp only [List.getElem_toArray, List.getElem_cons_succ, List.getElem_cons_zero, Act.put, List.setIfInBounds_toArray, List.set_cons_zero, List.set_cons_succ]
        refine He.wpE_take (i := 1) (v := ?_) rfl (by kernel_rfl) (by kernel_rfl) (by kernel_rfl) (by kernel_rfl) (by kernel_rfl) (fun _ _ _ h => h) (by rfl) ?_ (by assumption) ?_
        rotate_left
        · (intro w' hSw; (try dsimp only at hSw); go_simp; first | done | with_reducible rfl)
        try simp only [List.getElem_toArray, List.getElem_cons_succ, List.getElem_cons_zero, Act.put, List.setIfInBounds_toArray, List.set_cons_zero, List.set_cons_succ]
        refine He.wpE_take (i := 2) (v := ?_) rfl (by kernel_rfl) (by kernel_rfl) (by kernel_rfl) (by kernel_rfl) (by kernel_rfl) (fun _ _ _ h => h) (by rfl) ?_ (by assumption) ?_
        rotate_left
        · (intro w' hSw; (try dsimp only at hSw); go_simp; first | done | with_reducible rfl)
        try simp only [List.getElem_toArray, List.getElem_cons_succ, List.getElem_cons_zero, Act.put, List.setIfInBounds_toArray, List.set_cons_zero, List.set_cons_succ]
        refine He.wpE_take (i := 3) (v := ?_) rfl (by kernel_rfl) (by kernel_rfl) (by kernel_rfl) (by kernel_rfl) (by kernel_rfl) (fun _ _ _ h => h) (by rfl) ?_ (by assumption) ?_
        rotate_left
        · (intro w' hSw; (try dsimp only at hSw); go_simp; first | done | with_reducible rfl)
        try simp only [List.getElem_toArray, List.getElem_cons_succ, List.getElem_cons_zero, Act.put, List.setIfInBounds_toArray, List.set_cons_zero, List.set_cons_succ]
        refine He.wpE_take (i := 5) (v := ?_) rfl (by kernel_rfl) (by kernel_rfl) (by kernel_rfl) (by kernel_rfl) (by kernel_rfl) (fun _ _ _ h => h) (by rfl) ?_ (by assumption) ?_
        rotate_left
        · (intro w' hSw; (try dsimp only at hSw); go_simp; first | done | with_reducible rfl)
        try simp only [List.getElem_toArray, List.getElem_cons_succ, List.getElem_cons_zero, Act.put, List.setIfInBounds_toArray, List.set_cons_zero, List.set_cons_succ]
        refine He.wpE_take (i := 6) (v := ?_) rfl (by kernel_rfl) (by kernel_rfl) (by kernel_rfl) (by kernel_rfl) (by kernel_rfl) (fun _ _ _ h => h) (by rfl) ?_ (by assumption) ?_
        rotate_left
        · (intro w' hSw; (try dsimp only at hSw); go_simp; first | done | with_reducible rfl)
        try simp only [List.getElem_toArray, List.getElem_cons_succ, List.getElem_cons_zero, Act.put, List.setIfInBounds_toArray, List.set_cons_zero, List.set_cons_succ]
        refine He.wpE_take (i := 7) (v := ?_) rfl (by kernel_rfl) (by kernel_rfl) (by kernel_rfl) (by kernel_rfl) (by kernel_rfl) (fun _ _ _ h => h) (by rfl) ?_ (by assumption) ?_
        rotate_left
        · (intro w' hSw; (try dsimp only at hSw); go_simp; first | done | with_reducible rfl)
        try simp only [List.getElem_toArray, List.getElem_cons_succ, List.getElem_cons_zero, Act.put, List.setIfInBounds_toArray, List.set_cons_zero, List.set_cons_succ]
        refine He.wpE_one (i := 4) (by kernel_rfl) rfl (by rfl) (fun K hK => ?_)
        go_simp
        (with_reducible refine (LC.out _ HQ.out.ag).mono ?_)
        rintro e z1 ⟨rfl, rfl⟩
        refine hK.out _ _ (fun _ => S0') ?_
        clear hK K LC
        try simp only [Act.put, List.setIfInBounds_toArray, List.set_cons_zero, List.set_cons_succ]
        refine He.wpE_take (i := 8) (v := ?_) rfl (by kernel_rfl) (by kernel_rfl) (by kernel_rfl) (by kernel_rfl) (by kernel_rfl) (fun _ _ _ h => h) (by rfl) ?_ (by assumption) ?_
        rotate_left
        · (intro w' hSw; (try dsimp only at hSw); go_simp; first | done | with_reducible rfl)
        try simp only [List.getElem_toArray, List.getElem_cons_succ, List.getElem_cons_zero, Act.put, List.setIfInBounds_toArray, List.set_cons_zero, List.set_cons_succ]
        refine He.wpE_take (i := 9) (v := ?_) rfl (by kernel_rfl) (by kernel_rfl) (by kernel_rfl) (by kernel_rfl) (by kernel_rfl) (fun _ _ _ h => h) (by rfl) ?_ (by assumption) ?_
        rotate_left
        · (intro w' hSw; (try dsimp only at hSw); go_simp; first | done | with_reducible rfl)
        try simp only [List.getElem_toArray, List.getElem_cons_succ, List.getElem_cons_zero, Act.put, List.setIfInBounds_toArray, List.set_cons_zero, List.set_cons_succ]
        refine He.wpE_take (i := 10) (v := ?_) rfl (by kernel_rfl) (by kernel_rfl) (by kernel_rfl) (by kernel_rfl) (by kernel_rfl) (fun _ _ _ h => h) (by rfl) ?_ (by assumption) ?_
        rotate_left
        · (intro w' hSw; (try dsimp only at hSw); go_simp; first | done | with_reducible rfl)
        try simp only [List.getElem_toArray, List.getElem_cons_succ, List.getElem_cons_zero, Act.put, List.setIfInBounds_toArray, List.set_cons_zero, List.set_cons_succ]
        refine He.wpE_take (i := 11) (v := ?_) rfl (by kernel_rfl) (by kernel_rfl) (by kernel_rfl) (by kernel_rfl) (by kernel_rfl) (fun _ _ _ h => h) (by rfl) ?_ (by assumption) ?_
        rotate_left
        · (intro w' hSw; (try dsimp only at hSw); go_simp; first | done | with_reducible rfl)
        try simp only [List.getElem_toArray, List.getElem_cons_succ, List.getElem_cons_zero, Act.put, List.setIfInBounds_toArray, List.set_cons_zero, List.set_cons_succ]
        refine He.wpE_take (i := 14) (v := ?_) rfl (by kernel_rfl) (by kernel_rfl) (by kernel_rfl) (by kernel_rfl) (by kernel_rfl) (fun _ _ _ h => h) (by rfl) ?_ (by assumption) ?_
        rotate_left
        · (intro w' hSw; (try dsimp only at hSw); go_simp; first | done | with_reducible rfl)
        try simp only [List.getElem_toArray, List.getElem_cons_succ, List.getElem_cons_zero, Act.put, List.setIfInBounds_toArray, List.set_cons_zero, List.set_cons_succ]
        refine He.wpE_take (i := 15) (v := ?_) rfl (by kernel_rfl) (by kernel_rfl) (by kernel_rfl) (by kernel_rfl) (by kernel_rfl) (fun _ _ _ h => h) (by rfl) ?_ (by assumption) ?_
        rotate_left
        · (intro w' hSw; (try dsimp only at hSw); go_simp; first | done | with_reducible rfl)
        try simp only [List.getElem_toArray, List.getElem_cons_succ, List.getElem_cons_zero, Act.put, List.setIfInBounds_toArray, List.set_cons_zero, List.set_cons_succ]
        refine He.wpE_one (i := 12) (by kernel_rfl) rfl (by rfl) (fun K hK => ?_)
        go_simp
        refine (AC.out _ HQ.out.ag).mono ?_
        rintro e z2 ⟨v2, rfl, hmz, hr2⟩
        have HZ2 := Lib.hid (HQ.out.mod hmz)
        have Sz2 : z2.cell? ⟨rb, 0, none⟩ = some (.slice a' S'.length c') := HZ2.out.bl.cell 0
        have HI2 := Lib.hid hr2
        clear hr2 AC HQ
        refine hK.out _ _ (fun _ => Sz2) ?_
        clear hK K hmz
        try simp only [Act.put, List.setIfInBounds_toArray, List.set_cons_zero, List.set_cons_succ]
        refine He.wpE_one (i := 13) (by kernel_rfl) rfl (by rfl) (fun K hK => ?_)
        go_simp
        refine (RF.out _ _ _ HI2.out).mono ?_
        rintro e z3 ⟨v3, rfl, hmz, hr3⟩
        have HZ3 := Lib.hid (HZ2.out.mod hmz)
        have Sz3 : z3.cell? ⟨rb, 0, none⟩ = some (.slice a' S'.length c') := HZ3.out.bl.cell 0
        have HI3 := Lib.hid hr3.rf
        clear hr3 RF HZ2 HI2 Sz2
        refine hK.out _ _ (fun _ => Sz3) ?_
        clear hK K hmz
        try simp only [Act.put, List.setIfInBounds_toArray, List.set_cons_zero, List.set_cons_succ]
        refine He.wpE_one (i := 16) (by kernel_rfl) rfl (by rfl) (fun K hK => ?_)
        go_simp
        refine (SC.out _ _ _ HI3.out HZ3.out.rf).mono ?_
        rintro e z4 ⟨rfl, hmz⟩
        have HZ4 := Lib.hid (HZ3.out.mod hmz)
        have Sz4 : z4.cell? ⟨rb, 0, none⟩ = some (.slice a' S'.length c') := HZ4.out.bl.cell 0
        clear SC HI3 HZ3 Sz3
        refine hK.out _ _ (fun _ => Sz4) ?_
        clear hK K hmz
        try simp only [Act.put, List.setIfInBounds_toArray, List.set_cons_zero, List.set_cons_succ]
        refine He.wpE_take (i := 17) (v := ?_) rfl (by kernel_rfl) (by kernel_rfl) (by kernel_rfl) (by kernel_rfl) (by kernel_rfl) (fun _ _ _ h => h) (by rfl) ?_ (by assumption) ?_
        rotate_left
        · (intro w' hSw; (try dsimp only at hSw); go_simp; first | done | with_reducible rfl)
        try simp only [List.getElem_toArray, List.getElem_cons_succ, List.getElem_cons_zero, Act.put, List.setIfInBounds_toArray, List.set_cons_zero, List.set_cons_succ]
        refine He.wpE_take (i := 18) (v := ?_) rfl (by kernel_rfl) (by kernel_rfl) (by kernel_rfl) (by kernel_rfl) (by kernel_rfl) (fun _ _ _ h => h) (by rfl) ?_ (by assumption) ?_
        rotate_left
        · (intro w' hSw; (try dsimp only at hSw); go_simp; first | done | with_reducible rfl)
        try simp only [List.getElem_toArray, List.getElem_cons_succ, List.getElem_cons_zero, Act.put, List.setIfInBounds_toArray, List.set_cons_zero, List.set_cons_succ]
        refine He.wpE_done (by kernel_rfl) ?_
        try simp only [Act.put, List.setIfInBounds_toArray, List.set_cons_zero, List.set_cons_succ]
        go_wp2_with fail
        go_roundw
        case rel => exact ⟨i + 1, last', _, S', by omega, by omega, by go_num, by omega, by omega, hS', HZ4.out⟩
        case measure => simp [intOf]; omega
    · have hstop : decide ((i : Int) < xs.length) = false ∨ (decide ((i : Int) < xs.length) = true ∧ decide ((i : Int) < 200) = false) := by
        by_cases hx : (i : Int) < xs.length
        · exact .inr ⟨decide_eq_true hx, decide_eq_false (by omega)⟩
        · exact .inl (decide_eq_false hx)
      clear hgo
      rcases hstop with hx | ⟨hx, hy⟩
      · have hx' : (xs.length : Int) ≤ i := by have := of_decide_eq_false hx; omega
        go_wp2_with fail
        go_ret
        exact ⟨rfl, HP.out.ag.md.below0⟩
      · have hx' : (i : Int) < xs.length := of_decide_eq_true hx
        have hy' : (200 : Int) ≤ i := by have := of_decide_eq_false hy; omega
        go_wp2_with fail
        go_ret
        exact ⟨rfl, HP.out.ag.md.below0⟩
end Go.Proofs.Ytceocpohdckkoaa.Ag
