/- Books: BookLoads. -/
import Derived.Test.YtceocpohdckkoaaBxO
import Derived.Test.YtceocpohdckkoaaBxJ
import Derived.Test.YtceocpohdckkoaaBx9
namespace Go.Proofs.Ytceocpohdckkoaa.Bx
open Go.RowKit Mem Bits
set_option linter.unusedSimpArgs false
set_option linter.unusedVariables false
set_option maxRecDepth 100000

set_option maxHeartbeats 8000000 in
theorem bookLoads_mod (w : World) (s : ByteArray) (hs : s.size ≤ 140737488351232) :
    Calls Try.prog 11 #[.string s] w fun e w' => e = .returned (.bool true) ∧ Mod w w' [] := by
  have AW := Lib.hid awake_calls
  by_cases hbig : 20000 < s.size
  · have hbig' : (20000 : Int) < s.size := by omega
    go_enter Try.func11, Try.ntmps11
    go_wp2_with fail
    (with_reducible refine (AW.out _).mono ?_)
    rintro e w1 ⟨rfl, hm1⟩
    go_wp2_with fail
    go_ret
    exact ⟨rfl, hm1⟩
  have hle : (s.size : Int) ≤ 20000 := by omega
  have LC := Lib.hid (load_calls s w (by omega))
  have RC := Lib.hid (fun w' => rload_calls s w' (by omega))
  obtain ⟨R, hR⟩ : ∃ R, loadD s = R := ⟨_, rfl⟩
  have LB := Lib.hid (fun b l (h : R = some (b, l)) => load_back (s := s) (by rw [hR]; exact h))
  rw [hR] at LC
  have RC' : Hid (∀ w', Calls Try.prog 36 #[.string s] w' (RLoadP w' R)) := Lib.hid (fun w' => by rw [← hR]; exact RC.out w')
  clear RC hR hbig
  go_enter Try.func11, Try.ntmps11
  go_wp2_with fail
  (with_reducible refine (LC.out).mono ?_)
  rintro e w1 ⟨hm1, h1⟩
  have HM1 := Lib.hid hm1
  clear hm1 LC
  rcases R with _ | ⟨b, l⟩
  · simp only at h1
    subst h1
    go_wp2_with fail
    (with_reducible refine (RC'.out _).mono ?_)
    rintro e w2 ⟨hm2, h2⟩
    simp only at h2
    subst h2
    have HM3 := Lib.hid (HM1.out.trans0 (hm2.alloc (.cells #[.int .i64 0, .slice none 0 0] 57)))
    clear hm2 RC'
    go_wp2_with fail
    generalize w2.alloc _ = w3 at *
    (with_reducible refine (AW.out _).mono ?_)
    rintro e w4 ⟨rfl, hm4⟩
    have HM4 := Lib.hid (HM3.out.trans0 hm4)
    clear hm4
    go_wp2_with fail
    go_ret
    exact ⟨rfl, HM4.out⟩
  · obtain ⟨g, rfl, hk⟩ := h1
    obtain ⟨hok, htx⟩ := LB.out b l rfl
    have HK := Lib.hid hk
    have HOK := Lib.hid hok
    have HTX := Lib.hid htx
    clear hk hok htx LB
    go_wp2_with fail
    (with_reducible refine (RC'.out _).mono ?_)
    rintro e w2 ⟨hm2, v, rfl, hr⟩
    obtain ⟨va, vc, rfl, hvc⟩ := hr.slice
    clear hvc
    have HM3 := Lib.hid (HM1.out.trans0 (hm2.alloc (.cells #[.int .i64 b, .slice va l.length vc] 57)))
    have HK3 := Lib.hid (HK.out.mod (hm2.alloc (.cells #[.int .i64 b, .slice va l.length vc] 57)))
    have HR3 := Lib.hid (hr.mod ((Mod.refl w2 []).alloc (.cells #[.int .i64 b, .slice va l.length vc] 57)))
    have HB3 := Lib.hid (Blk.new w2 #[.int .i64 b, .slice va l.length vc] 57)
    clear hm2 hr RC' HK
    go_wp2_with fail
    generalize w2.heap.size = BX at *
    generalize w2.alloc _ = w3 at *
    (with_reducible refine (AW.out _).mono ?_)
    rintro e w4 ⟨rfl, hm4⟩
    have HM4 := Lib.hid (HM3.out.trans0 hm4)
    have HK4 := Lib.hid (HK3.out.mod hm4)
    have HR4 := Lib.hid (HR3.out.mod hm4)
    have HB4 := Lib.hid (HB3.out.mod hm4 (by simp))
    have c0 := HB4.out.cell 0
    have c1 := HB4.out.cell 1
    have SC := Lib.hid (same_calls HK4.out HR4.out HOK.out)
    clear hm4 HK3 HR3
    go_wp2_with fail
    (with_reducible refine (SC.out).mono ?_)
    rintro e w5 ⟨rfl, hm5⟩
    have HM5 := Lib.hid (HM4.out.trans0 hm5)
    have TC := text_calls (HK4.out.mod hm5) HOK.out.lo (by have := HOK.out.hi; omega) HOK.out.len (fun r hr => by
      obtain ⟨_, h2, h3⟩ := mayB_vals (HOK.out.may r hr)
      exact ⟨h2, fun x hx => by have := h3 x hx; omega⟩)
    rw [HTX.out] at TC
    have TC' := Lib.hid TC
    clear TC hm5 SC c0 c1
    go_wp2_with fail
    (with_reducible refine (TC'.out).mono ?_)
    rintro e w6 ⟨rfl, hm6⟩
    have HM6 := Lib.hid (HM5.out.trans0 hm6)
    clear hm6 TC'
    go_wp2_with fail
    go_ret
    exact ⟨rfl, HM6.out⟩
theorem bookLoads_calls (w : World) (s : ByteArray) (hs : s.size ≤ 140737488351232) :
    Calls Try.prog 11 #[.string s] w fun e w' => e = .returned (.bool true) ∧ Below w.heap.size w w' :=
  (bookLoads_mod w s hs).mono (fun _ _ h => ⟨h.1, h.2.below0⟩)
end Go.Proofs.Ytceocpohdckkoaa.Bx
