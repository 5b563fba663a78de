/- The contracts of the texts of values and events. -/
import Derived.Test.YtdmipmkgoefidaaEvC4
namespace Go.Proofs.Ytdmipmkgoefidaa.Ev
open Go.RowKit Mem Bits EvH
set_option linter.unusedSimpArgs false
set_option linter.unusedVariables false
set_option maxRecDepth 100000

def textS (s : ByteArray) : ByteArray := Bt.numS s.size ++ s
def payS (k n : Int) (f : Nat) (s : ByteArray) : ByteArray := if k = 1 then Bt.numS (fold n) else if k = 2 then realS f else textS s
def valueS (k n : Int) (f : Nat) (s : ByteArray) : ByteArray := Bt.numS k.toNat ++ payS k n f s

set_option maxHeartbeats 1000000 in
theorem value_calls (k n : Int) (f : Nat) (s : ByteArray) (hk : 1 ≤ k ∧ k ≤ 3) (n1 : -9223372036854775808 ≤ n) (n2 : n ≤ 9223372036854775807) (hf : f < 18446744073709551616) (hs : s.size ≤ 140737488351232) (w : World) :
    Calls Try.prog 32 #[valV k n f s] w fun e w' => e = .returned (.string (valueS k n f s)) ∧ Mod w w' [] := by
  have NC := Lib.hid (fun w => num_calls k.toNat (by omega) w)
  have IC := Lib.hid (fun w => int_calls n n1 n2 w)
  have RC := Lib.hid (fun w => real_calls f hf w)
  have TC := Lib.hid (fun w => text_calls s (by omega) w)
  have hb0 := Blk.new w #[.int .i64 k, .int .i64 n, .float .f64 f, .string s] 42
  have hm0 := (Mod.refl w []).alloc (.cells #[.int .i64 k, .int .i64 n, .float .f64 f, .string s] 42)
  have HB0 := Lib.hid hb0
  have HM0 := Lib.hid hm0
  clear hb0 hm0
  have e0 : valueS k n f s = Bt.numS k.toNat ++ payS k n f s := rfl
  have e1 : payS k n f s = if k = 1 then Bt.numS (fold n) else if k = 2 then realS f else Bt.numS s.size ++ s := rfl
  rw [e0, e1]
  have z0 := Bt.numS_size_le k.toNat
  have z1 := Bt.numS_size_le (fold n)
  have z2 : (realS f).size = 8 := by unfold realS; rw [strOfNums_size, Bt.be_length]
  have z3 : (Bt.numS s.size ++ s).size ≤ 140737488351241 := by rw [ByteArray.size_append]; have := Bt.numS_size_le s.size; omega
  have z2' : (realS f).size ≤ 8 := by omega
  clear e0 e1 z2
  generalize Bt.numS (fold n) = S1 at *
  generalize realS f = S2 at *
  generalize Bt.numS s.size ++ s = S3 at *
  rcases (by omega : k = 1 ∨ k = 2 ∨ k = 3) with rfl | rfl | rfl
  · rw [show Int.toNat 1 = 1 from rfl] at *
    generalize Bt.numS 1 = S0 at *
    go_enter Try.func32, Try.ntmps32
    go_wp2_with fail
    refine (NC.out _).mono ?_
    rintro e w1 ⟨rfl, hm1⟩
    obtain ⟨c0, c1, c2, c3⟩ := Blk4 (HB0.out.mod hm1 (by simp))
    go_wp2_with fail
    refine (IC.out _).mono ?_
    rintro e w2 ⟨rfl, hm2⟩
    go_wp2_with fail
    go_ret
    exact ⟨rfl, (HM0.out.trans0 hm1).trans0 hm2⟩
  · rw [show Int.toNat 2 = 2 from rfl] at *
    generalize Bt.numS 2 = S0 at *
    go_enter Try.func32, Try.ntmps32
    go_wp2_with fail
    refine (NC.out _).mono ?_
    rintro e w1 ⟨rfl, hm1⟩
    obtain ⟨c0, c1, c2, c3⟩ := Blk4 (HB0.out.mod hm1 (by simp))
    go_wp2_with fail
    refine (RC.out _).mono ?_
    rintro e w2 ⟨rfl, hm2⟩
    go_wp2_with fail
    go_ret
    exact ⟨rfl, (HM0.out.trans0 hm1).trans0 hm2⟩
  · rw [show Int.toNat 3 = 3 from rfl] at *
    generalize Bt.numS 3 = S0 at *
    go_enter Try.func32, Try.ntmps32
    go_wp2_with fail
    refine (NC.out _).mono ?_
    rintro e w1 ⟨rfl, hm1⟩
    obtain ⟨c0, c1, c2, c3⟩ := Blk4 (HB0.out.mod hm1 (by simp))
    go_wp2_with fail
    refine (TC.out _).mono ?_
    rintro e w2 ⟨rfl, hm2⟩
    go_wp2_with fail
    go_ret
    exact ⟨rfl, (HM0.out.trans0 hm1).trans0 hm2⟩

def headS (a b c : Int) (k : ByteArray) (n : Nat) : ByteArray := Bt.numS a.toNat ++ Bt.numS b.toNat ++ Bt.numS c.toNat ++ textS k ++ Bt.numS n
def fieldS (x : Fld) : ByteArray := textS x.name ++ valueS x.v.k x.v.n x.v.f x.v.s
/-- What is written when i fields are. -/
def encTo (a b c : Int) (k : ByteArray) (l : List Fld) : Nat → ByteArray
  | 0 => headS a b c k l.length
  | i + 1 => encTo a b c k l i ++ fieldS (l[i]!)
theorem headS_size (a b c : Int) (k : ByteArray) (n : Nat) : (headS a b c k n).size ≤ 45 + k.size := by
  unfold headS textS
  simp only [ByteArray.size_append]
  have := Bt.numS_size_le a.toNat
  have := Bt.numS_size_le b.toNat
  have := Bt.numS_size_le c.toNat
  have := Bt.numS_size_le k.size
  have := Bt.numS_size_le n
  omega
theorem payS_size (k n : Int) (f : Nat) (s : ByteArray) : (payS k n f s).size ≤ 9 + s.size := by
  have z2 : (realS f).size = 8 := by unfold realS; rw [strOfNums_size, Bt.be_length]
  have := Bt.numS_size_le (fold n)
  have := Bt.numS_size_le s.size
  unfold payS textS
  split
  · omega
  split
  · omega
  · rw [ByteArray.size_append]; omega
theorem fieldS_size (x : Fld) : (fieldS x).size ≤ 27 + x.name.size + x.v.s.size := by
  unfold fieldS textS valueS
  simp only [ByteArray.size_append]
  have := payS_size x.v.k x.v.n x.v.f x.v.s
  have := Bt.numS_size_le x.v.k.toNat
  have := Bt.numS_size_le x.name.size
  omega
theorem wordB_size (s : ByteArray) (h : wordB s = true) : s.size ≤ 16 := by
  unfold wordB at h
  simp only [Bool.and_eq_true, decide_eq_true_iff] at h
  exact h.2
theorem mayB_facts (k n : Int) (f : Nat) (s : ByteArray) (h : mayB k n f s = true) : 1 ≤ k ∧ k ≤ 3 ∧ s.size ≤ 64 := by
  unfold mayB at h
  split at h
  · simp only [Bool.and_eq_true, decide_eq_true_iff] at h; omega
  split at h
  · simp only [Bool.and_eq_true, decide_eq_true_iff] at h; omega
  split at h
  · simp only [Bool.and_eq_true, decide_eq_true_iff] at h; omega
  · cases h
theorem fields_at (l : List Fld) (h : fieldsB l = true) (i : Nat) (hi : i < l.length) : wordB l[i].name = true ∧ mayB l[i].v.k l[i].v.n l[i].v.f l[i].v.s = true := by
  unfold fieldsB at h
  rw [List.all_eq_true] at h
  have := h i (List.mem_range.2 hi)
  unfold goodF at this
  rw [getElem!_pos l i hi] at this
  simp only [Bool.and_eq_true] at this
  exact ⟨this.1, this.2.1⟩
theorem check_parts (a b c : Int) (k : ByteArray) (l : List Fld) (h : checkB a b c k l = true) : (0 ≤ a ∧ a ≤ 549755813888) ∧ (0 ≤ b ∧ b ≤ 549755813888) ∧ (0 ≤ c ∧ c ≤ 549755813888) ∧ k.size ≤ 16 ∧ l.length ≤ 8 ∧ fieldsB l = true := by
  unfold checkB inB at h
  simp only [Bool.and_eq_true, decide_eq_true_iff] at h
  exact ⟨h.1, h.2.1, h.2.2.1, wordB_size k h.2.2.2.1, h.2.2.2.2.1, h.2.2.2.2.2⟩
theorem encTo_size (a b c : Int) (k : ByteArray) (l : List Fld) (h : checkB a b c k l = true) (i : Nat) (hi : i ≤ l.length) : (encTo a b c k l i).size ≤ 100 + i * 200 := by
  obtain ⟨_, _, _, hk, hl, hf⟩ := check_parts a b c k l h
  induction i with
  | zero => have := headS_size a b c k l.length; simp only [encTo]; omega
  | succ i ih =>
    have := ih (by omega)
    simp only [encTo, ByteArray.size_append]
    rw [getElem!_pos l i (by omega)]
    have h1 := fields_at l hf i (by omega)
    have h2 := wordB_size _ h1.1
    have h3 := (mayB_facts _ _ _ _ h1.2).2.2
    have := fieldS_size (l[i]'(by omega))
    omega
end Go.Proofs.Ytdmipmkgoefidaa.Ev
