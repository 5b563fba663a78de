/- The law EventTexts. -/
import Derived.Test.YtdmipmkgoefidaaEvA
import Derived.Test.YtdmipmkgoefidaaEvC7
import Derived.Test.YtdmipmkgoefidaaEvR
namespace Go.Proofs.Ytdmipmkgoefidaa.Ev
open Go.RowKit Mem Bits EvH
set_option linter.unusedSimpArgs false
set_option linter.unusedVariables false
set_option maxRecDepth 100000

abbrev fldSh : Open.Sh := .st (.cat .str (.cat valSh .nil))
abbrev evSh : Open.Sh := .st (.cat (.int .i64) (.cat (.int .i64) (.cat (.int .i64) (.cat .str (.cat (.sl fldSh 56) .nil)))))
theorem fld_rd {w : World} {cs : List Value} (h : Open.Rd w fldSh cs) : ∃ x : Fld, cs = fldC x ∧ FldOK x := by
  obtain ⟨_, _, rfl, ⟨nm, rfl, hn⟩, _, _, rfl, hv, rfl⟩ := h
  obtain ⟨v, rfl, hv2⟩ := val_rd hv
  exact ⟨⟨nm, v⟩, rfl, hn, hv2.k1, hv2.k2, hv2.n1, hv2.n2, hv2.f, hv2.s⟩
structure EvOK (w : World) (a b c : Int) (k : ByteArray) (sl : Value) (l : List Fld) : Prop where
  a1 : -9223372036854775808 ≤ a
  a2 : a ≤ 9223372036854775807
  b1 : -9223372036854775808 ≤ b
  b2 : b ≤ 9223372036854775807
  c1 : -9223372036854775808 ≤ c
  c2 : c ≤ 9223372036854775807
  kz : k.size ≤ 140737488351232
  shape : ∃ a cap, sl = .slice a l.length cap
  f : FldsAt w sl l
  ok : ∀ x ∈ l, FldOK x
  n : l.length ≤ 140737488351232
theorem ev_rd {w : World} {cs : List Value} (h : Open.Rd w evSh cs) : ∃ a b c k sl l, cs = [.int .i64 a, .int .i64 b, .int .i64 c, .string k, sl] ∧ EvOK w a b c k sl l := by
  obtain ⟨_, _, rfl, ⟨a, rfl, ha⟩, _, _, rfl, ⟨b, rfl, hb⟩, _, _, rfl, ⟨c, rfl, hc⟩, _, _, rfl, ⟨k, rfl, hk⟩, _, _, rfl, ⟨sl, rows, rfl, hr, hn, _, hq⟩, rfl⟩ := h
  obtain ⟨l, rfl, hl⟩ := Open.rows_map fldC FldOK (fun r hr => fld_rd (hq r hr))
  have hs : ∃ a cap, sl = .slice a l.length cap := by
    obtain ⟨a, cap, rfl, _⟩ := hr
    rw [List.length_map]
    exact ⟨a, cap, rfl⟩
  rw [List.length_map] at hn
  exact ⟨a, b, c, k, sl, l, rfl, (wf_i64 ha).1, (wf_i64 ha).2, (wf_i64 hb).1, (wf_i64 hb).2, (wf_i64 hc).1, (wf_i64 hc).2, hk, hs, flds_of hr, hl, by omega⟩

theorem eventTexts_calls (w : World) (ca : Array Value) (ha : Open.Rd w evSh ca.toList) :
    Calls Try.prog 4 #[.agg ca] w fun e w' => e = .returned (.bool true) ∧ Below w.heap.size w w' := by
  obtain ⟨a, b, c, k, sl, l, ea, ok⟩ := ev_rd ha
  obtain rfl := arr_of ea
  obtain ⟨ad, cap, hsl⟩ := ok.shape
  have hln := ok.n
  have AW := Lib.hid awake_calls
  have HF := Lib.hid ok.f
  have HB0 := Lib.hid (Blk.new w #[.int .i64 a, .int .i64 b, .int .i64 c, .string k, sl] 24)
  have HM0 := Lib.hid ((Mod.refl w []).alloc (.cells #[.int .i64 a, .int .i64 b, .int .i64 c, .string k, sl] 24))
  have HS := Lib.hid hsl
  by_cases h100 : 100 < l.length
  · have h' : 100 < (l.length : Int) := by omega
    subst hsl
    clear ok ea ha h100
    go_enter Try.func4, Try.ntmps4
    go_wp2_with fail
    refine (AW.out _).mono ?_
    rintro e w1 ⟨rfl, hm1⟩
    go_wp2_with fail
    go_ret
    exact ⟨rfl, (HM0.out.trans0 hm1).below0⟩
  · have h' : (l.length : Int) ≤ 100 := by omega
    have E1 := Lib.hid (fun w hf => encode_calls a b c k ok.kz sl l ok.ok (by omega) w hf)
    have E2 := Lib.hid (fun w v hf => refencode_calls a b c k ok.kz v l ok.ok (by omega) w hf)
    have RC := Lib.hid (fun w hf => ref_calls a b c k sl l (by omega) w hf)
    generalize encR a b c k l = S1 at *
    generalize checkR a b c k l = R1 at *
    have hs1 : (S1.toList == S1.toList) = true := by simp
    have hr1 : (R1 == R1) = true := by simp
    clear ok ea ha h100
    subst hsl
    go_enter Try.func4, Try.ntmps4
    go_wp2_with fail
    refine (E1.out _ (HF.out.mod HM0.out)).mono ?_
    rintro e w1 ⟨rfl, hm1⟩
    have HM1 := Lib.hid (HM0.out.trans0 hm1)
    obtain ⟨b0, b1, b2, b3, b4⟩ := Blk5 (HB0.out.mod hm1 (by simp))
    clear hm1
    go_wp2_with fail
    refine (RC.out _ (HF.out.mod HM1.out)).mono ?_
    rintro e w2 ⟨v2, rfl, hm2, hf2⟩
    have HM2 := Lib.hid (HM1.out.trans0 hm2)
    have HF2 := Lib.hid hf2
    clear hm2 hf2
    go_wp2_with fail
    refine (E2.out _ _ HF2.out).mono ?_
    rintro e w3 ⟨rfl, hm3⟩
    have HM3 := Lib.hid (HM2.out.trans0 hm3)
    clear hm3
    go_wp2_with fail
    refine (AW.out _).mono ?_
    rintro e w4 ⟨rfl, hm4⟩
    have HM4 := Lib.hid (HM3.out.trans0 hm4)
    clear hm4
    go_wp2_with fail
    go_ret
    exact ⟨rfl, HM4.out.below0⟩
end Go.Proofs.Ytdmipmkgoefidaa.Ev
