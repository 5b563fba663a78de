/- Same says yes of equal events. -/
import Derived.Test.YtdmipmkgoefidaaEvD5
namespace Go.Proofs.Ytdmipmkgoefidaa.Ev
open Go.RowKit Mem Bits EvH
set_option linter.unusedSimpArgs false
set_option linter.unusedVariables false
set_option maxRecDepth 100000

theorem same_self (k n : Int) (f : Nat) (s : ByteArray) (w : World) :
    Calls Try.prog 23 #[valV k n f s, valV k n f s] w fun e w' => e = .returned (.bool true) ∧ Mod w w' [] := by
  have BC := Lib.hid (fun w => refbits_calls f w)
  generalize canB f = F at *
  have h1 : (k == k) = true := by simp
  have h2 : (n == n) = true := by simp
  have h3 : (s.toList == s.toList) = true := by simp
  have h4 : ((F : Int) == (F : Int)) = true := by simp
  have HB0 := Lib.hid ((Blk.new w #[.int .i64 k, .int .i64 n, .float .f64 f, .string s] 45).alloc (.cells #[.int .i64 k, .int .i64 n, .float .f64 f, .string s] 45))
  have hb1 := Blk.new (w.alloc (.cells #[.int .i64 k, .int .i64 n, .float .f64 f, .string s] 45)) #[.int .i64 k, .int .i64 n, .float .f64 f, .string s] 45
  rw [World.size_alloc] at hb1
  have HB1 := Lib.hid hb1
  have HM0 := Lib.hid (((Mod.refl w []).alloc (.cells #[.int .i64 k, .int .i64 n, .float .f64 f, .string s] 45)).alloc (.cells #[.int .i64 k, .int .i64 n, .float .f64 f, .string s] 45))
  clear hb1
  go_enter Try.func23, Try.ntmps23
  go_wp2_with fail
  generalize (w.alloc _).alloc _ = W at HB0 HB1 HM0 ⊢
  obtain ⟨v0, v1, v2, v3⟩ := BlkA HB0.out
  obtain ⟨u0, u1, u2, u3⟩ := BlkA HB1.out
  (refine wp_region_quiet_after (by kernel_rfl) (by kernel_rfl) ?_; (repeat (go_big_quiet_step ((with_reducible refine after_same (BC.out _))))); refine wpQuiet_nil ?_; intro wq hw'; obtain ⟨⟨wq2, hmq⟩, hw''⟩ := hw'; subst hw'')
  have M1 := Lib.hid (HM0.out.trans0 hmq)
  clear v0 v1 v2 v3 u0 u1 u2 u3 hmq
  go_wp2_with fail
  go_ret
  exact ⟨rfl, M1.out⟩


set_option maxHeartbeats 4000000 in
theorem same_calls (a b c : Int) (k : ByteArray) (sl sl' : Value) (l : List Fld) (hn : l.length ≤ 1000000) (w : World) (hf : FldsAt w sl l) (hf' : FldsAt w sl' l) :
    Calls Try.prog 26 #[evV a b c k sl, evV a b c k sl'] w fun e w' => e = .returned (.bool true) ∧ Mod w w' [] := by
  have hn' : (l.length : Int) ≤ 1000000 := by omega
  have h1 : (a != a) = false := by simp
  have h2 : (b != b) = false := by simp
  have h3 : (c != c) = false := by simp
  have h4 : (k.toList == k.toList) = true := by simp
  have h5 : ((l.length : Int) != (l.length : Int)) = false := by simp
  have HB0 := Lib.hid ((Blk.new w #[.int .i64 a, .int .i64 b, .int .i64 c, .string k, sl] 32).alloc (.cells #[.int .i64 a, .int .i64 b, .int .i64 c, .string k, sl'] 32))
  have hb1 := Blk.new (w.alloc (.cells #[.int .i64 a, .int .i64 b, .int .i64 c, .string k, sl] 32)) #[.int .i64 a, .int .i64 b, .int .i64 c, .string k, sl'] 32
  rw [World.size_alloc] at hb1
  have HB1 := Lib.hid hb1
  have HM0 := Lib.hid (((Mod.refl w []).alloc (.cells #[.int .i64 a, .int .i64 b, .int .i64 c, .string k, sl] 32)).alloc (.cells #[.int .i64 a, .int .i64 b, .int .i64 c, .string k, sl'] 32))
  have HF := Lib.hid hf
  have HF' := Lib.hid hf'
  clear hb1 hf hf'
  rcases HF.out with ⟨hnil, a0, cap, hsl⟩ | ⟨bb, off, cap, hsl, hcap, hrow⟩
  · rcases HF'.out with ⟨_, a1, cap', hsl'⟩ | ⟨bb', off', cap', hsl', hcap', hrow'⟩
    · subst hsl hsl'
      clear hnil
      go_enter Try.func26, Try.ntmps26
      go_wp2_with fail
      go_loop [5] (fun v => v = .int .i64 0) (fun v => 0)
      case atStart => rfl
      case round =>
        subst hrel
        go_wp2_with fail
        go_ret
        exact ⟨rfl, HM0.out⟩
    · have h0 : l.length = 0 := by rw [hnil]; rfl
      rw [h0] at hsl'
      subst hsl hsl'
      clear hnil
      go_enter Try.func26, Try.ntmps26
      go_wp2_with fail
      go_loop [5] (fun v => v = .int .i64 0) (fun v => 0)
      case atStart => rfl
      case round =>
        subst hrel
        go_wp2_with fail
        go_ret
        exact ⟨rfl, HM0.out⟩
  · have hsl2 : ∃ bb' off' cap', sl' = .slice (some ⟨bb', off', none⟩) l.length cap' ∧ (0 < l.length → l.length ≤ cap') ∧ RowF w bb' off' l ∨ (l.length = 0 ∧ ∃ a1, sl' = .slice a1 0 cap') := by
      rcases HF'.out with ⟨hnil', a1, cap', hsl'⟩ | ⟨bb', off', cap', hsl', hcap', hrow'⟩
      · exact ⟨0, 0, cap', .inr ⟨by rw [hnil']; rfl, a1, hsl'⟩⟩
      · exact ⟨bb', off', cap', .inl ⟨hsl', fun _ => hcap', hrow'⟩⟩
    obtain ⟨bb', off', cap', ⟨hsl', hcap', hrow'⟩ | ⟨h0, a1, hsl'⟩⟩ := hsl2
    case inr =>
      rw [h0] at hsl
      subst hsl hsl'
      go_enter Try.func26, Try.ntmps26
      go_wp2_with fail
      go_loop [5] (fun v => v = .int .i64 0) (fun v => 0)
      case atStart => rfl
      case round =>
        subst hrel
        go_wp2_with fail
        go_ret
        exact ⟨rfl, HM0.out⟩
    subst hsl hsl'
    have HROW := Lib.hid (hrow.mod HM0.out)
    have HROW' := Lib.hid (hrow'.mod HM0.out)
    clear hrow hrow'
    go_enter Try.func26, Try.ntmps26
    go_wp2_with fail
    generalize (w.alloc _).alloc _ = W at HB0 HB1 HM0 HROW HROW' ⊢
    go_loopw [5] (fun v wr => ∃ i : Nat, i ≤ l.length ∧ v = .int .i64 (i : Int) ∧ Mod W wr []) (fun v _ => l.length + 1 - (intOf v).toNat)
    case atStart => exact ⟨0, by omega, rfl, Mod.refl _ _⟩
    case round =>
      obtain ⟨i, hi, rfl, hm⟩ := hrel
      have HM := Lib.hid hm
      by_cases hlt : i < l.length
      · have hlt' : (i : Int) < l.length := by omega
        have hi0 : (0 : Int) ≤ (i : Int) := by omega
        have hc1 := (HROW.out.mod hm) i hlt
        have hc2 := (HROW'.out.mod hm) i hlt
        obtain ⟨e0, e1, e2, e3, e4⟩ := Blk5 (HB0.out.mod hm (by simp))
        obtain ⟨g0, g1, g2, g3, g4⟩ := Blk5 (HB1.out.mod hm (by simp))
        obtain ⟨v0, v1, v2, v3, v4⟩ := BlkA5 (HB0.out.mod hm (by simp))
        obtain ⟨u0, u1, u2, u3, u4⟩ := BlkA5 (HB1.out.mod hm (by simp))
        obtain ⟨x, hx⟩ : ∃ x, (l[i]'hlt) = x := ⟨_, rfl⟩
        rw [hx] at hc1 hc2
        obtain ⟨p0, p1, p2, p3, p4⟩ := hc1.after
        obtain ⟨q0, q1, q2, q3, q4⟩ := hc2.after
        have SV := Lib.hid (fun w => same_self x.v.k x.v.n x.v.f x.v.s w)
        have hxx : (x.name.toList == x.name.toList) = true := by simp
        have hcl : (l.length : Int) ≤ cap := by omega
        have hcl' : (l.length : Int) ≤ cap' := by have := hcap' (by omega); omega
        clear hm hx hc1 hc2
        go_wp2_with fail
        (refine wp_region_quiet_after (by kernel_rfl) (by kernel_rfl) ?_; (repeat (go_big_quiet_step ((with_reducible refine after_of (SV.out _))))); refine wpQuiet_nil ?_; intro wq hw'; obtain ⟨⟨wq2, hmq⟩, hw''⟩ := hw'; subst hw'')
        have M3 := Lib.hid (HM.out.trans0 hmq)
        clear v0 v1 v2 v3 v4 u0 u1 u2 u3 u4 p0 p1 p2 p3 p4 q0 q1 q2 q3 q4 e0 e1 e2 e3 e4 g0 g1 g2 g3 g4 hmq
        go_wp2_with fail
        go_roundw
        case rel => exact ⟨i + 1, by omega, by go_num, M3.out⟩
        case measure => simp [intOf]; omega
      · have hge : (l.length : Int) ≤ i := by omega
        obtain ⟨e0, e1, e2, e3, e4⟩ := Blk5 (HB0.out.mod hm (by simp))
        go_wp2_with fail
        go_ret
        exact ⟨rfl, HM0.out.trans0 HM.out⟩
end Go.Proofs.Ytdmipmkgoefidaa.Ev
