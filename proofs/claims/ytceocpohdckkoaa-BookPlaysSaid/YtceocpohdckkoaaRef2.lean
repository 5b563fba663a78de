/- The contracts of the reference tape's methods. -/
import Derived.Test.YtceocpohdckkoaaRef1
import Derived.Test.YtceocpohdckkoaaBits9
namespace Go.Proofs.Ytceocpohdckkoaa.Bits
open Go.RowKit Mem
set_option linter.unusedSimpArgs false
set_option linter.unusedVariables false
set_option maxRecDepth 100000

abbrev tapeV (s : ByteArray) (e : Int) : Value := .agg #[.string s, .int .i64 e]

theorem Blk2 {w : World} {g : Nat} {a b : Value} {t : TypeId} (h : Blk w g #[a, b] t) : w.cell? ⟨g, 0, none⟩ = some a ∧ w.cell? ⟨g, 1, none⟩ = some b ∧ w.frozen? ⟨g, 0, none⟩ = false ∧ w.frozen? ⟨g, 1, none⟩ = false := ⟨h.cell 0, h.cell 1, h.free 0, h.free 1⟩

theorem rNum_calls (s : ByteArray) (e0 : Int) (w : World) (hs : s.size ≤ 140737488355328) :
    Calls Try.prog 60 #[tapeV s e0] w fun e w' => e = .returned (.tuple #[tapeV (tS s e0) (tE s e0), .int .u64 (tN s e0)]) ∧ Mod w w' [] := by
  have HB0 := Lib.hid ((Blk.new w #[.string s, .int .i64 e0] 121).alloc (.cells #[.string ⟨#[]⟩, .int .i64 0] 121))
  have hb1 := Blk.new (w.alloc (.cells #[.string s, .int .i64 e0] 121)) #[.string ⟨#[]⟩, .int .i64 0] 121
  rw [World.size_alloc] at hb1
  have HB1 := Lib.hid hb1
  have HM0 := Lib.hid (((Mod.refl w []).alloc (.cells #[.string s, .int .i64 e0] 121)).alloc (.cells #[.string ⟨#[]⟩, .int .i64 0] 121))
  clear hb1
  by_cases h0 : e0 = 0
  · subst h0
    have hD := Bt.numD_facts s
    have nc := fun w => ahead_calls s w hs
    have HN := Lib.hid nc
    have e1 : tN s 0 = (Bt.numD s).1 := by unfold tN; rw [if_pos rfl]
    have e2 : tS s 0 = s.extract (Bt.numD s).2.1 s.size := by unfold tS; rw [if_pos rfl]
    have e3 : tE s 0 = (Bt.numD s).2.2 := by unfold tE; rw [if_pos rfl]
    rw [e1, e2, e3]
    clear e1 e2 e3 nc
    generalize Bt.numD s = D at *
    obtain ⟨n, k, e⟩ := D
    simp only at hD HN ⊢
    obtain ⟨hd1, hd2, hd3, _⟩ := hD
    have hk : (k : Int) ≤ s.size := by omega
    go_enter Try.func60, Try.ntmps60
    go_wp2_with fail
    refine (HN.out _).mono ?_
    rintro e' w1 ⟨rfl, hm1⟩
    obtain ⟨b0, b1, b2, b3⟩ := Blk2 (HB0.out.mod hm1 (by simp))
    obtain ⟨c0, c1, c2, c3⟩ := Blk2 (HB1.out.mod hm1 (by simp))
    have HM1 := Lib.hid (HM0.out.trans0 hm1)
    clear hm1
    go_wp2_with fail
    refine bodyPost_ret (v := .tuple #[tapeV (s.extract k s.size) e, .int .u64 n]) (by simp [results, Try.results60, go_sem, c0, c1]) rfl ⟨rfl, ?_⟩
    exact ((HM1.out.setCell (.inr (Nat.le_succ _)) _).setCell (.inr (Nat.le_succ _)) _)
  · have hne : (e0 != 0) = true := by rw [bne_iff_ne]; exact h0
    have e1 : tN s e0 = 0 := by unfold tN; rw [if_neg h0]
    have e2 : tS s e0 = s := by unfold tS; rw [if_neg h0]
    have e3 : tE s e0 = e0 := by unfold tE; rw [if_neg h0]
    rw [e1, e2, e3]
    clear e1 e2 e3 h0
    go_enter Try.func60, Try.ntmps60
    go_wp2_with fail
    refine bodyPost_ret (v := .tuple #[tapeV s e0, .int .u64 0]) (by simp [results, Try.results60, go_sem]) rfl ⟨rfl, ?_⟩
    first | exact HM0.out | exact ((HM0.out.setCell (.inr (Nat.le_succ _)) _).setCell (.inr (Nat.le_succ _)) _) | exact ((Mod.refl _ _).alloc _).alloc _
end Go.Proofs.Ytceocpohdckkoaa.Bits
