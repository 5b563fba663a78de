/- The law EventGets. -/
import Derived.Test.YtdmipmkgoefidaaEvT
namespace Go.Proofs.Ytdmipmkgoefidaa.Ev
open Go.RowKit Mem Bits EvH
set_option linter.unusedSimpArgs false
set_option linter.unusedVariables false
set_option maxRecDepth 100000

def getV : List Fld → ByteArray → Val × Bool
  | [], _ => (⟨0, 0, 0, ⟨#[]⟩⟩, false)
  | x :: l, s => if (x.name.toList == s.toList) then (x.v, true) else getV l s
theorem getV_at : ∀ (l : List Fld) (s : ByteArray) (i : Nat) (hi : i < l.length), (∀ j (hj : j < l.length), j < i → (l[j].name.toList == s.toList) = false) → (l[i].name.toList == s.toList) = true → getV l s = (l[i].v, true)
  | x :: l, s, 0, _, _, h => by simp only [List.getElem_cons_zero] at h; unfold getV; rw [h]; rfl
  | x :: l, s, i + 1, hi, hl, h => by
    have h0 := hl 0 (by simp) (by omega)
    simp only [List.getElem_cons_zero] at h0
    unfold getV
    rw [h0]
    exact getV_at l s i (by simpa using hi) (fun j hj hji => hl (j + 1) (by simpa using hj) (by omega)) h
theorem getV_none : ∀ (l : List Fld) (s : ByteArray), (∀ j (hj : j < l.length), (l[j].name.toList == s.toList) = false) → getV l s = (⟨0, 0, 0, ⟨#[]⟩⟩, false)
  | [], _, _ => rfl
  | x :: l, s, h => by
    have h0 := h 0 (by simp)
    simp only [List.getElem_cons_zero] at h0
    unfold getV
    rw [h0]
    exact getV_none l s (fun j hj => h (j + 1) (by simpa using hj))

theorem Blk4f {w : World} {g : Nat} {a b c d : Value} {t : TypeId} (h : Blk w g #[a, b, c, d] t) : (w.cell? ⟨g, 0, none⟩ = some a ∧ w.cell? ⟨g, 1, none⟩ = some b ∧ w.cell? ⟨g, 2, none⟩ = some c ∧ w.cell? ⟨g, 3, none⟩ = some d) ∧ w.frozen? ⟨g, 0, none⟩ = false ∧ w.frozen? ⟨g, 1, none⟩ = false ∧ w.frozen? ⟨g, 2, none⟩ = false ∧ w.frozen? ⟨g, 3, none⟩ = false := ⟨Blk4 h, h.free 0, h.free 1, h.free 2, h.free 3⟩

set_option maxHeartbeats 2000000 in
theorem get_calls (a b c : Int) (k : ByteArray) (sl : Value) (l : List Fld) (s : ByteArray) (hn : l.length ≤ 1000000) (w : World) (hf : FldsAt w sl l) :
    Calls Try.prog 21 #[evV a b c k sl, .string s] w fun e w' => e = .returned (.tuple #[valV (getV l s).1.k (getV l s).1.n (getV l s).1.f (getV l s).1.s, .bool (getV l s).2]) ∧ Mod w w' [] := by
  have hn' : (l.length : Int) ≤ 1000000 := by omega
  have HB0 := Lib.hid ((Blk.new w #[.int .i64 a, .int .i64 b, .int .i64 c, .string k, sl] 24).alloc (.cells #[.int .i64 0, .int .i64 0, .float .f64 0, .string ⟨#[]⟩] 42))
  have hb1 := Blk.new (w.alloc (.cells #[.int .i64 a, .int .i64 b, .int .i64 c, .string k, sl] 24)) #[.int .i64 0, .int .i64 0, .float .f64 0, .string ⟨#[]⟩] 42
  rw [World.size_alloc] at hb1
  have HB1 := Lib.hid hb1
  have HM0 := Lib.hid (((Mod.refl w []).alloc (.cells #[.int .i64 a, .int .i64 b, .int .i64 c, .string k, sl] 24)).alloc (.cells #[.int .i64 0, .int .i64 0, .float .f64 0, .string ⟨#[]⟩] 42))
  have HF := Lib.hid hf
  have HG := Lib.hid (getV_at l s)
  have HN := Lib.hid (getV_none l s)
  generalize getV l s = G at *
  clear hb1 hf
  rcases HF.out with ⟨hnil, a0, cap, hsl⟩ | ⟨bb, off, cap, hsl, hcap, hrow⟩
  · have HG0 := Lib.hid (HN.out (by rw [hnil]; intro j hj; simp at hj))
    subst hsl
    clear hnil
    go_enter Try.func21, Try.ntmps21
    go_wp2_with fail
    go_loop [11] (fun v => v = .int .i64 0) (fun v => 0)
    case atStart => rfl
    case round =>
      subst hrel
      go_wp2_with fail
      refine bodyPost_ret (v := .tuple #[valV 0 0 0 ⟨#[]⟩, .bool false]) (by simp [results, Try.results21, go_sem]) rfl ⟨by rw [HG0.out], ?_⟩
      first | exact HM0.out | exact ((((HM0.out.setCell (.inr (Nat.le_succ _)) _).setCell (.inr (Nat.le_succ _)) _).setCell (.inr (Nat.le_succ _)) _).setCell (.inr (Nat.le_succ _)) _)
  · subst hsl
    have HROW := Lib.hid (hrow.mod HM0.out)
    clear hrow
    go_enter Try.func21, Try.ntmps21
    go_wp2_with fail
    generalize (w.alloc _).alloc _ = W at HB0 HB1 HM0 HROW ⊢
    go_loopw [11] (fun v wr => ∃ i : Nat, i ≤ l.length ∧ v = .int .i64 (i : Int) ∧ Mod W wr [] ∧ Hid (∀ j (hj : j < l.length), j < i → (l[j].name.toList == s.toList) = false)) (fun v _ => l.length + 1 - (intOf v).toNat)
    case atStart => exact ⟨0, by omega, rfl, Mod.refl _ _, Lib.hid (fun j hj h => by omega)⟩
    case round =>
      obtain ⟨i, hi, rfl, hm, HJ⟩ := hrel
      have HM := Lib.hid hm
      obtain ⟨⟨q0, q1, q2, q3⟩, fr0, fr1, fr2, fr3⟩ := Blk4f (HB1.out.mod hm (by simp))
      have hsz : w.heap.size + 1 < wr.heap.size := Nat.lt_of_lt_of_le HB1.out.lt hm.size
      by_cases hlt : i < l.length
      · have hlt' : (i : Int) < l.length := by omega
        have hcs := HROW.out.mod hm i hlt
        have hga := HG.out i hlt (fun j hj hji => HJ.out j hj hji)
        have HJ2 : Hid ((l[i].name.toList == s.toList) = false → ∀ j (hj : j < l.length), j < i + 1 → (l[j].name.toList == s.toList) = false) := Lib.hid (fun h j hj hji => by
          rcases (by omega : j < i ∨ j = i) with g | rfl
          · exact HJ.out j hj g
          · exact h)
        obtain ⟨x, hx⟩ : ∃ x, (l[i]'hlt) = x := ⟨_, rfl⟩
        rw [hx] at hcs hga HJ2
        obtain ⟨c0, c1, c2, c3, c4⟩ := hcs
        have HGA := Lib.hid hga
        clear hm hx hga
        cases hq : (x.name.toList == s.toList)
        · have HJ3 := Lib.hid (HJ2.out hq)
          clear HJ2 HJ
          go_wp2_with fail
          go_roundw
          case rel => exact ⟨i + 1, by omega, by go_num, HM.out.alloc _, HJ3⟩
          case measure => simp [intOf]; omega
        · have HR := Lib.hid (HGA.out hq)
          go_wp2_with fail
          refine bodyPost_ret (v := .tuple #[valV x.v.k x.v.n x.v.f x.v.s, .bool true]) (by simp [results, Try.results21, go_sem, q0, q1, q2, q3, hsz]) rfl ⟨by rw [HR.out], ?_⟩
          exact (((((HM0.out.trans0 HM.out).setCell (p := ⟨w.heap.size + 1, 0, none⟩) (.inr (Nat.le_succ _)) _).setCell (p := ⟨w.heap.size + 1, 1, none⟩) (.inr (Nat.le_succ _)) _).setCell (p := ⟨w.heap.size + 1, 2, none⟩) (.inr (Nat.le_succ _)) _).setCell (p := ⟨w.heap.size + 1, 3, none⟩) (.inr (Nat.le_succ _)) _).alloc _
      · have HG0 := Lib.hid (HN.out (fun j hj => HJ.out j hj (by omega)))
        have hge : (l.length : Int) ≤ i := by omega
        go_wp2_with fail
        refine bodyPost_ret (v := .tuple #[valV 0 0 0 ⟨#[]⟩, .bool false]) (by simp [results, Try.results21, go_sem, q0, q1, q2, q3]) rfl ⟨by rw [HG0.out], ?_⟩
        exact ((((HM0.out.trans0 HM.out).setCell (p := ⟨w.heap.size + 1, 0, none⟩) (.inr (Nat.le_succ _)) _).setCell (p := ⟨w.heap.size + 1, 1, none⟩) (.inr (Nat.le_succ _)) _).setCell (p := ⟨w.heap.size + 1, 2, none⟩) (.inr (Nat.le_succ _)) _).setCell (p := ⟨w.heap.size + 1, 3, none⟩) (.inr (Nat.le_succ _)) _

set_option maxHeartbeats 2000000 in
theorem refget_calls (a b c : Int) (k : ByteArray) (sl : Value) (l : List Fld) (s : ByteArray) (hn : l.length ≤ 1000000) (w : World) (hf : FldsAt w sl l) :
    Calls Try.prog 22 #[evV a b c k sl, .string s] w fun e w' => e = .returned (.tuple #[valV (getV l s).1.k (getV l s).1.n (getV l s).1.f (getV l s).1.s, .bool (getV l s).2]) ∧ Mod w w' [] := by
  have hn' : (l.length : Int) ≤ 1000000 := by omega
  have HB0 := Lib.hid ((Blk.new w #[.int .i64 a, .int .i64 b, .int .i64 c, .string k, sl] 32).alloc (.cells #[.int .i64 0, .int .i64 0, .float .f64 0, .string ⟨#[]⟩] 45))
  have hb1 := Blk.new (w.alloc (.cells #[.int .i64 a, .int .i64 b, .int .i64 c, .string k, sl] 32)) #[.int .i64 0, .int .i64 0, .float .f64 0, .string ⟨#[]⟩] 45
  rw [World.size_alloc] at hb1
  have HB1 := Lib.hid hb1
  have HM0 := Lib.hid (((Mod.refl w []).alloc (.cells #[.int .i64 a, .int .i64 b, .int .i64 c, .string k, sl] 32)).alloc (.cells #[.int .i64 0, .int .i64 0, .float .f64 0, .string ⟨#[]⟩] 45))
  have HF := Lib.hid hf
  have HG := Lib.hid (getV_at l s)
  have HN := Lib.hid (getV_none l s)
  generalize getV l s = G at *
  clear hb1 hf
  rcases HF.out with ⟨hnil, a0, cap, hsl⟩ | ⟨bb, off, cap, hsl, hcap, hrow⟩
  · have HG0 := Lib.hid (HN.out (by rw [hnil]; intro j hj; simp at hj))
    subst hsl
    clear hnil
    go_enter Try.func22, Try.ntmps22
    go_wp2_with fail
    go_loop [6] (fun v => v = .int .i64 0) (fun v => 0)
    case atStart => rfl
    case round =>
      subst hrel
      go_wp2_with fail
      refine bodyPost_ret (v := .tuple #[valV 0 0 0 ⟨#[]⟩, .bool false]) (by simp [results, Try.results22, go_sem]) rfl ⟨by rw [HG0.out], ?_⟩
      first | exact HM0.out | exact ((((HM0.out.setCell (.inr (Nat.le_succ _)) _).setCell (.inr (Nat.le_succ _)) _).setCell (.inr (Nat.le_succ _)) _).setCell (.inr (Nat.le_succ _)) _)
  · subst hsl
    have HROW := Lib.hid (hrow.mod HM0.out)
    clear hrow
    go_enter Try.func22, Try.ntmps22
    go_wp2_with fail
    generalize (w.alloc _).alloc _ = W at HB0 HB1 HM0 HROW ⊢
    obtain ⟨_, _, _, _, e4⟩ := Blk5 HB0.out
    obtain ⟨⟨q0, q1, q2, q3⟩, fr0, fr1, fr2, fr3⟩ := Blk4f HB1.out
    go_loop [6] (fun v => ∃ i : Nat, i ≤ l.length ∧ v = .int .i64 (i : Int) ∧ Hid (∀ j (hj : j < l.length), j < i → (l[j].name.toList == s.toList) = false)) (fun v => l.length + 1 - (intOf v).toNat)
    case atStart => exact ⟨0, by omega, rfl, Lib.hid (fun j hj h => by omega)⟩
    case round =>
      obtain ⟨i, hi, rfl, HJ⟩ := hrel
      by_cases hlt : i < l.length
      · have hlt' : (i : Int) < l.length := by omega
        have hcs := HROW.out i hlt
        have hga := HG.out i hlt (fun j hj hji => HJ.out j hj hji)
        have HJ2 : Hid ((l[i].name.toList == s.toList) = false → ∀ j (hj : j < l.length), j < i + 1 → (l[j].name.toList == s.toList) = false) := Lib.hid (fun h j hj hji => by
          rcases (by omega : j < i ∨ j = i) with g | rfl
          · exact HJ.out j hj g
          · exact h)
        obtain ⟨x, hx⟩ : ∃ x, (l[i]'hlt) = x := ⟨_, rfl⟩
        rw [hx] at hcs hga HJ2
        obtain ⟨c0, c1, c2, c3, c4⟩ := hcs
        have HGA := Lib.hid hga
        clear hx hga
        cases hq : (x.name.toList == s.toList)
        · have HJ3 := Lib.hid (HJ2.out hq)
          clear HJ2 HJ
          go_wp2_with fail
          go_round
          case rel => exact ⟨i + 1, by omega, by go_num, HJ3⟩
          case measure => simp [intOf]; omega
        · have HR := Lib.hid (HGA.out hq)
          go_wp2_with fail
          refine bodyPost_ret (v := .tuple #[valV x.v.k x.v.n x.v.f x.v.s, .bool true]) (by simp [results, Try.results22, go_sem, q0, q1, q2, q3]) rfl ⟨by rw [HR.out], ?_⟩
          exact (((HM0.out.setCell (p := ⟨w.heap.size + 1, 0, none⟩) (.inr (Nat.le_succ _)) _).setCell (p := ⟨w.heap.size + 1, 1, none⟩) (.inr (Nat.le_succ _)) _).setCell (p := ⟨w.heap.size + 1, 2, none⟩) (.inr (Nat.le_succ _)) _).setCell (p := ⟨w.heap.size + 1, 3, none⟩) (.inr (Nat.le_succ _)) _
      · have HG0 := Lib.hid (HN.out (fun j hj => HJ.out j hj (by omega)))
        have hge : (l.length : Int) ≤ i := by omega
        go_wp2_with fail
        refine bodyPost_ret (v := .tuple #[valV 0 0 0 ⟨#[]⟩, .bool false]) (by simp [results, Try.results22, go_sem, q0, q1, q2, q3]) rfl ⟨by rw [HG0.out], ?_⟩
        exact (((HM0.out.setCell (p := ⟨w.heap.size + 1, 0, none⟩) (.inr (Nat.le_succ _)) _).setCell (p := ⟨w.heap.size + 1, 1, none⟩) (.inr (Nat.le_succ _)) _).setCell (p := ⟨w.heap.size + 1, 2, none⟩) (.inr (Nat.le_succ _)) _).setCell (p := ⟨w.heap.size + 1, 3, none⟩) (.inr (Nat.le_succ _)) _

theorem same_self (k n : Int) (f : Nat) (s : ByteArray) (w : World) :
    Calls Try.prog 23 #[valV k n f s, valV k n f s] w fun e w' => e = .returned (.bool true) ∧ Mod w w' [] := by
  have BC := Lib.hid (fun w => refbits_calls f w)
  generalize canB f = F at *
  have h1 : (k == k) = true := by simp
  have h2 : (n == n) = true := by simp
  have h3 : (s.toList == s.toList) = true := by simp
  have h4 : ((F : Int) == (F : Int)) = true := by simp
  have HB0 := Lib.hid ((Blk.new w #[.int .i64 k, .int .i64 n, .float .f64 f, .string s] 45).alloc (.cells #[.int .i64 k, .int .i64 n, .float .f64 f, .string s] 45))
  have hb1 := Blk.new (w.alloc (.cells #[.int .i64 k, .int .i64 n, .float .f64 f, .string s] 45)) #[.int .i64 k, .int .i64 n, .float .f64 f, .string s] 45
  rw [World.size_alloc] at hb1
  have HB1 := Lib.hid hb1
  have HM0 := Lib.hid (((Mod.refl w []).alloc (.cells #[.int .i64 k, .int .i64 n, .float .f64 f, .string s] 45)).alloc (.cells #[.int .i64 k, .int .i64 n, .float .f64 f, .string s] 45))
  clear hb1
  go_enter Try.func23, Try.ntmps23
  go_wp2_with fail
  generalize (w.alloc _).alloc _ = W at HB0 HB1 HM0 ⊢
  obtain ⟨v0, v1, v2, v3⟩ := BlkA HB0.out
  obtain ⟨u0, u1, u2, u3⟩ := BlkA HB1.out
  (refine wp_region_quiet_after (by kernel_rfl) (by kernel_rfl) ?_; (repeat (go_big_quiet_step ((with_reducible refine after_same (BC.out _))))); refine wpQuiet_nil ?_; intro wq hw'; obtain ⟨⟨wq2, hmq⟩, hw''⟩ := hw'; subst hw'')
  have M1 := Lib.hid (HM0.out.trans0 hmq)
  clear v0 v1 v2 v3 u0 u1 u2 u3 hmq
  go_wp2_with fail
  go_ret
  exact ⟨rfl, M1.out⟩

set_option maxHeartbeats 1000000 in
theorem eventGets_calls (w : World) (ca : Array Value) (ha : Open.Rd w evSh ca.toList) (s : ByteArray) (hs : s.size ≤ 140737488351232) :
    Calls Try.prog 7 #[.agg ca, .string s] w fun e w' => e = .returned (.bool true) ∧ Below w.heap.size w w' := by
  obtain ⟨a, b, c, k, sl, l, ea, ok⟩ := ev_rd ha
  obtain rfl := arr_of ea
  obtain ⟨ad, cap, hsl⟩ := ok.shape
  have hln := ok.n
  have AW := Lib.hid awake_calls
  have HF := Lib.hid ok.f
  have HB0 := Lib.hid (Blk.new w #[.int .i64 a, .int .i64 b, .int .i64 c, .string k, sl] 24)
  have HM0 := Lib.hid ((Mod.refl w []).alloc (.cells #[.int .i64 a, .int .i64 b, .int .i64 c, .string k, sl] 24))
  have HS := Lib.hid hsl
  by_cases h100 : 100 < l.length
  · have h' : 100 < (l.length : Int) := by omega
    subst hsl
    clear ok ea ha h100
    go_enter Try.func7, Try.ntmps7
    go_wp2_with fail
    refine (AW.out _).mono ?_
    rintro e w1 ⟨rfl, hm1⟩
    go_wp2_with fail
    go_ret
    exact ⟨rfl, (HM0.out.trans0 hm1).below0⟩
  · have h' : (l.length : Int) ≤ 100 := by omega
    have E1 := Lib.hid (fun w hf => get_calls a b c k sl l s (by omega) w hf)
    have E2 := Lib.hid (fun w v hf => refget_calls a b c k v l s (by omega) w hf)
    have RC := Lib.hid (fun w hf => ref_calls a b c k sl l (by omega) w hf)
    generalize getV l s = G at E1 E2
    obtain ⟨⟨gk, gn, gf, gs⟩, gb⟩ := G
    dsimp only at E1 E2
    have SV := Lib.hid (fun w => same_self gk gn gf gs w)
    clear ok ea ha h100
    subst hsl
    cases gb
    all_goals
      go_enter Try.func7, Try.ntmps7
      go_wp2_with fail
      refine (E1.out _ (HF.out.mod HM0.out)).mono ?_
      rintro e w1 ⟨rfl, hm1⟩
      have HM1 := Lib.hid (HM0.out.trans0 hm1)
      have hbq := HB0.out.mod hm1 (by simp)
      have hlq := hbq.lt
      obtain ⟨b0, b1, b2, b3, b4⟩ := Blk5 hbq
      clear hm1 hbq
      go_wp2_with fail
      refine (RC.out _ (HF.out.mod (HM1.out.alloc _))).mono ?_
      rintro e w2 ⟨v2, rfl, hm2, hf2⟩
      have HM2 := Lib.hid ((HM1.out.alloc _).trans0 hm2)
      have HF2 := Lib.hid hf2
      have HV := Lib.hid ((Blk.new w1 #[.int .i64 gk, .int .i64 gn, .float .f64 gf, .string gs] 42).mod hm2 (by simp))
      clear hm2 hf2
      go_wp2_with fail
      refine (E2.out _ _ HF2.out).mono ?_
      rintro e w3 ⟨rfl, hm3⟩
      have HM3 := Lib.hid (HM2.out.trans0 hm3)
      have HV3 := Lib.hid (HV.out.mod hm3 (by simp))
      clear hm3
      go_wp2_with fail
      refine (AW.out _).mono ?_
      rintro e w4 ⟨rfl, hm4⟩
      have HM4 := Lib.hid ((HM3.out.alloc _).trans0 hm4)
      have HV4 := Lib.hid ((HV3.out.alloc (.cells #[.int .i64 gk, .int .i64 gn, .float .f64 gf, .string gs] 45)).mod hm4 (by simp))
      have HU4 := Lib.hid ((Blk.new w3 #[.int .i64 gk, .int .i64 gn, .float .f64 gf, .string gs] 45).mod hm4 (by simp))
      obtain ⟨p0, p1, p2, p3⟩ := Blk4 HV4.out
      obtain ⟨q0, q1, q2, q3⟩ := Blk4 HU4.out
      clear hm4 b0 b1 b2 b3 b4
      go_wp2_with fail
      refine (SV.out _).mono ?_
      rintro e w5 ⟨rfl, hm5⟩
      have HM5 := Lib.hid (HM4.out.trans0 hm5)
      clear hm5
      go_wp2_with fail
      go_ret
      exact ⟨rfl, HM5.out.below0⟩
end Go.Proofs.Ytdmipmkgoefidaa.Ev
