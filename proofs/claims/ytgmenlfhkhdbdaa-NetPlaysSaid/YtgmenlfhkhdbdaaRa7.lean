/- A message's text: the program's Write. -/
import Derived.Test.YtgmenlfhkhdbdaaRa6
import Derived.Deep.DeepCutAuto
namespace Go.Proofs.Ytgmenlfhkhdbdaa.Ra
open Go.RowKit Mem Bits
set_option linter.unusedSimpArgs false
set_option linter.unusedVariables false
set_option maxRecDepth 100000

def textS (x : ByteArray) : ByteArray := Bt.numS x.size ++ x
def enS (s : ByteArray) (x : En) : ByteArray := putL s [x.t, x.k, x.m] ++ textS x.x
def headS (m : Ms) : ByteArray := putL (putL ⟨#[]⟩ [m.kind, m.frm, m.dst, m.term, m.index, m.lt, m.commit] ++ flagS m.yes) [(m.es.length : Int)]
/-- A message's text. -/
def writeS (m : Ms) : ByteArray := putL (m.es.foldl enS (headS m)) [m.si, m.st, m.sm] ++ textS m.sx
structure EnOk (x : En) : Prop where
  t : 0 ≤ x.t ∧ x.t ≤ 549755813888
  k : 0 ≤ x.k ∧ x.k ≤ 2
  m : 0 ≤ x.m ∧ x.m ≤ 127
  x : x.x.size ≤ 32768
structure MsOk (m : Ms) : Prop where
  kind : 1 ≤ m.kind ∧ m.kind ≤ 5
  frm : 0 ≤ m.frm ∧ m.frm ≤ 6
  dst : 0 ≤ m.dst ∧ m.dst ≤ 6
  term : 0 ≤ m.term ∧ m.term ≤ 549755813888
  index : 0 ≤ m.index ∧ m.index ≤ 549755813888
  lt : 0 ≤ m.lt ∧ m.lt ≤ 549755813888
  commit : 0 ≤ m.commit ∧ m.commit ≤ 549755813888
  len : m.es.length ≤ 16
  si : 0 ≤ m.si ∧ m.si ≤ 549755813888
  st : 0 ≤ m.st ∧ m.st ≤ 549755813888
  sm : 0 ≤ m.sm ∧ m.sm ≤ 127
  sx : m.sx.size ≤ 262144
  es : ∀ x ∈ m.es, EnOk x
theorem enB_ok {x : En} (h : enB x = true) : EnOk x := by
  obtain ⟨h1, h2, h3⟩ := enB_iff.1 h
  have h1 := inB_t.1 h1
  refine ⟨h1, ?_, ?_, h2⟩ <;> omega
theorem fieldsB_kind {m : Ms} (h : fieldsB m = true) : 1 ≤ m.kind ∧ m.kind ≤ 5 := by
  unfold fieldsB fldB at h
  by_cases h1 : m.kind = 1
  · omega
  by_cases h2 : m.kind = 2
  · omega
  by_cases h3 : m.kind = 3
  · omega
  by_cases h4 : m.kind = 4
  · omega
  by_cases h5 : m.kind = 5
  · omega
  rw [if_neg h1, if_neg h2, if_neg h3, if_neg h4, if_neg h5] at h
  cases h
theorem checkB_ok {m : Ms} (h : checkB m = true) : MsOk m := by
  unfold checkB at h
  simp only [Bool.and_eq_true, List.all_cons, List.all_nil, Bool.and_true, Bool.not_eq_true', decide_eq_false_iff_not, Bool.and_assoc] at h
  obtain ⟨h1, h2, h3, h4, h5, h6, h7, h8, h9, h10, h11⟩ := h
  unfold snB at h9
  simp only [Bool.and_eq_true, decide_eq_true_eq] at h9
  obtain ⟨⟨⟨s1, s2⟩, s3⟩, s4⟩ := h9
  exact ⟨fieldsB_kind h10, inB_t.1 h1, inB_t.1 h2, inB_t.1 h4, inB_t.1 h5, inB_t.1 h6, inB_t.1 h7, by omega, inB_t.1 s1, inB_t.1 s2, inB_t.1 s3, s4, fun x hx => enB_ok (List.all_eq_true.1 h11 x hx)⟩
theorem textS_size (x : ByteArray) : (textS x).size ≤ x.size + 9 := by
  have := Bt.numS_size_le x.size
  unfold textS
  rw [ByteArray.size_append]
  omega
theorem enS_size (s : ByteArray) (x : En) (h : EnOk x) : (enS s x).size ≤ s.size + 40000 := by
  have h1 := (putL_size s [x.t, x.k, x.m]).2
  have h2 := textS_size x.x
  have h3 := h.x
  unfold enS
  rw [ByteArray.size_append]
  simp only [List.length_cons, List.length_nil] at h1
  omega
theorem ens_size : ∀ (l : List En) (s : ByteArray), (∀ x ∈ l, EnOk x) → (l.foldl enS s).size ≤ s.size + 40000 * l.length
  | [], s, _ => by simp
  | x :: l, s, h => by
    have h1 := enS_size s x (h x (by simp))
    have h2 := ens_size l (enS s x) (fun y hy => h y (by simp [hy]))
    rw [List.foldl_cons, List.length_cons]
    omega
theorem flagS_size (b : Bool) : (flagS b).size = 1 := by cases b <;> rfl
theorem headS_size (m : Ms) : (headS m).size ≤ 100 := by
  have h1 := (putL_size ⟨#[]⟩ [m.kind, m.frm, m.dst, m.term, m.index, m.lt, m.commit]).2
  have h2 := (putL_size (putL ⟨#[]⟩ [m.kind, m.frm, m.dst, m.term, m.index, m.lt, m.commit] ++ flagS m.yes) [(m.es.length : Int)]).2
  have h3 := flagS_size m.yes
  have h0 : (⟨#[]⟩ : ByteArray).size = 0 := rfl
  rw [ByteArray.size_append] at h2
  unfold headS
  simp only [List.length_cons, List.length_nil] at h1 h2
  omega
/-- While a text is written: the message at g, the text so far at b. -/
structure WrS (w : World) (g b : Nat) (cs : Array Value) (s : ByteArray) (W : World) : Prop where
  md : Mod w W []
  ge : w.heap.size ≤ b
  bm : Blk W g cs 33
  bs : Blk W b #[.string s] 9
theorem WrS.mod {w : World} {g b : Nat} {cs : Array Value} {s : ByteArray} {A B : World} (h : WrS w g b cs s A) (m : Mod A B []) : WrS w g b cs s B := ⟨h.md.trans0 m, h.ge, h.bm.mod m (by simp), h.bs.mod m (by simp)⟩
theorem WrS.stp {w : World} {g b : Nat} {cs : Array Value} {s s' : ByteArray} {A B : World} (h : WrS w g b cs s A) (m : Mod A B [b]) (hb : Blk B b #[.string s'] 9) : WrS w g b cs s' B :=
  ⟨h.md.trans m (by intro r hr; simp only [List.mem_singleton] at hr; subst hr; exact .inr h.ge), h.ge, h.bm.mod m (by simpa using blk_ne h.bm h.bs (by decide)), hb⟩
theorem WrS.set {w : World} {g b : Nat} {cs : Array Value} {s : ByteArray} {A : World} (h : WrS w g b cs s A) (s' : ByteArray) : WrS w g b cs s' (A.setCell ⟨b, 0, none⟩ (.string s')) :=
  h.stp ((Mod.refl A [b]).setCell (p := ⟨b, 0, none⟩) (.inl (by simp)) _) (h.bs.set 0 (.string s'))
theorem lst_bd {l : List Int} (h : ∀ x ∈ l, 0 ≤ x ∧ x ≤ 549755813888) : ∀ x ∈ l, 0 ≤ x ∧ x ≤ 9223372036854775807 := fun x hx => by have := h x hx; omega
theorem btext_calls (x : ByteArray) (hx : x.size ≤ 1000000) (w : World) : Calls Try.prog 64 #[.string x] w fun e w' => e = .returned (.string (textS x)) ∧ Mod w w' [] := text_calls x (by omega) w
set_option maxHeartbeats 16000000 in
theorem write_calls (m : Ms) (v : Value) (w : World) (hv : EnsV w v m.es) (hn : m.es.length ≤ 100000) :
    Calls Try.prog 29 #[msV m v] w fun e w' => e = .returned (.tuple #[.string (if checkB m = true then writeS m else ⟨#[]⟩), .int .i64 (if checkB m = true then 0 else 1)]) ∧ Mod w w' [] := by
  have CC := Lib.hid (fun w' (k : Mod w w' []) => check_calls m v w' (hv.mod k) hn)
  have HV := Lib.hid hv
  by_cases hc : checkB m = true
  · rw [if_pos hc, if_pos hc]
    have HOK := Lib.hid (checkB_ok hc)
    rw [hc] at CC
    obtain ⟨ad, cap, rfl, hcap, _⟩ := hv
    have HW : Hid (writeS m = putL (m.es.foldl enS (headS m)) [m.si, m.st, m.sm] ++ textS m.sx) := Lib.hid rfl
    have HH : Hid (headS m = putL (putL ⟨#[]⟩ [m.kind, m.frm, m.dst, m.term, m.index, m.lt, m.commit] ++ flagS m.yes) [(m.es.length : Int)]) := Lib.hid rfl
    have HZ := Lib.hid (headS_size m)
    generalize writeS m = WS at *
    generalize headS m = HS at *
    clear hc
    obtain ⟨kind, frm, dst, term, index, lt, commit, yes, es, si, st, sm, sx⟩ := m
    have ok1 := HOK.out.kind
    have ok2 := HOK.out.frm
    have ok3 := HOK.out.dst
    have ok4 := HOK.out.term
    have ok5 := HOK.out.index
    have ok6 := HOK.out.lt
    have ok7 := HOK.out.commit
    have ok8 := HOK.out.len
    have ok9 := HOK.out.si
    have ok10 := HOK.out.st
    have ok11 := HOK.out.sm
    have ok12 := HOK.out.sx
    have HES := Lib.hid HOK.out.es
    simp only at ok1 ok2 ok3 ok4 ok5 ok6 ok7 ok8 ok9 ok10 ok11 ok12 HES hcap hn HW HH HV
    clear HOK
    replace CC : Hid (∀ w' (k : Mod w w' []), Calls Try.prog 32 #[.agg #[.int .i64 kind, .int .i64 frm, .int .i64 dst, .int .i64 term, .int .i64 index, .int .i64 lt, .int .i64 commit, .bool yes, .slice ad es.length cap, .int .i64 si, .int .i64 st, .int .i64 sm, .string sx]] w' fun e w2 => e = .returned (.bool true) ∧ Mod w' w2 []) := CC
    have L7 : Hid (∀ x ∈ [kind, frm, dst, term, index, lt, commit], 0 ≤ x ∧ x ≤ 9223372036854775807) := Lib.hid (by intro x hx; simp only [List.mem_cons, List.not_mem_nil, or_false] at hx; rcases hx with rfl | rfl | rfl | rfl | rfl | rfl | rfl <;> omega)
    have L1 : Hid (∀ x ∈ [(es.length : Int)], 0 ≤ x ∧ x ≤ 9223372036854775807) := Lib.hid (by intro x hx; simp only [List.mem_cons, List.not_mem_nil, or_false] at hx; subst hx; omega)
    have L3 : Hid (∀ x ∈ [si, st, sm], 0 ≤ x ∧ x ≤ 9223372036854775807) := Lib.hid (by intro x hx; simp only [List.mem_cons, List.not_mem_nil, or_false] at hx; rcases hx with rfl | rfl | rfl <;> omega)
    clear ok1 ok2 ok3 ok4 ok5 ok6 ok7 ok9 ok10 ok11
    have hn' : (es.length : Int) ≤ 16 := by omega
    show Calls _ _ #[.agg #[.int .i64 kind, .int .i64 frm, .int .i64 dst, .int .i64 term, .int .i64 index, .int .i64 lt, .int .i64 commit, .bool yes, .slice ad es.length cap, .int .i64 si, .int .i64 st, .int .i64 sm, .string sx]] _ _
    have HM0 := Lib.hid ((Mod.refl w []).alloc (.cells #[.int .i64 kind, .int .i64 frm, .int .i64 dst, .int .i64 term, .int .i64 index, .int .i64 lt, .int .i64 commit, .bool yes, .slice ad es.length cap, .int .i64 si, .int .i64 st, .int .i64 sm, .string sx] 33))
    have HB0 := Lib.hid (Blk.new w #[.int .i64 kind, .int .i64 frm, .int .i64 dst, .int .i64 term, .int .i64 index, .int .i64 lt, .int .i64 commit, .bool yes, .slice ad es.length cap, .int .i64 si, .int .i64 st, .int .i64 sm, .string sx] 33)
    have C0 := Lib.hid (CC.out _ HM0.out)
    have hgl := HB0.out.lt
    clear CC
    go_enter Try.func29, Try.ntmps29
    go_wp2_with fail
    (with_reducible refine (C0.out).mono ?_)
    rintro e w1 ⟨rfl, hm1⟩
    have HA : Hid (WrS w w.heap.size w1.heap.size #[.int .i64 kind, .int .i64 frm, .int .i64 dst, .int .i64 term, .int .i64 index, .int .i64 lt, .int .i64 commit, .bool yes, .slice ad es.length cap, .int .i64 si, .int .i64 st, .int .i64 sm, .string sx] ⟨#[]⟩ (w1.alloc (.cells #[.string ⟨#[]⟩] 9))) := Lib.hid ⟨(HM0.out.trans0 hm1).alloc _, Nat.le_trans (Nat.le_succ _) (by have := hm1.size; simp at this; omega), (HB0.out.mod hm1 (by simp)).alloc _, Blk.new _ _ _⟩
    clear hm1 C0 HM0 HB0 hgl
    generalize hb : w1.heap.size = b at *
    go_upto_region 5 with (fail)
    generalize w1.alloc _ = w2 at *
    clear hb
    have q0 := HA.out.bm.cell 0
    have q1 := HA.out.bm.cell 1
    have q2 := HA.out.bm.cell 2
    have q3 := HA.out.bm.cell 3
    have q4 := HA.out.bm.cell 4
    have q5 := HA.out.bm.cell 5
    have q6 := HA.out.bm.cell 6
    have PC := Lib.hid (put_calls b w2.heap.size ⟨#[]⟩ [kind, frm, dst, term, index, lt, commit] _ (HA.out.bs.alloc _) (ints_g w2 _) L7.out (by simp) (by decide))
    simp only [List.length_cons, List.length_nil, List.map_cons, List.map_nil, Nat.zero_add] at PC
    have HA2 := Lib.hid (HA.out.mod ((Mod.refl w2 []).alloc (.cells #[.int .i64 kind, .int .i64 frm, .int .i64 dst, .int .i64 term, .int .i64 index, .int .i64 lt, .int .i64 commit] 3)))
    go_wp2_with fail
    (with_reducible refine (PC.out).mono ?_)
    rintro e w3 ⟨rfl, hm3, hb3⟩
    have HA3 := Lib.hid (HA2.out.stp hm3 hb3)
    clear hm3 hb3 PC HA2 HA q0 q1 q2 q3 q4 q5 q6
    obtain ⟨s1, hs1⟩ : ∃ s, putL ⟨#[]⟩ [kind, frm, dst, term, index, lt, commit] = s := ⟨_, rfl⟩
    have hz1 : s1.size ≤ 63 := by have := (putL_size ⟨#[]⟩ [kind, frm, dst, term, index, lt, commit]).2; rw [hs1] at this; have h0 : (⟨#[]⟩ : ByteArray).size = 0 := rfl; simp only [List.length_cons, List.length_nil] at this; omega
    rw [hs1] at HA3 HH
    clear hs1
    go_wp2_with fail
    -- region 6
    have r0 := HA3.out.bs.cell 0
    have r1 := HA3.out.bm.cell 7
    refine He.wp_region_e 5 (fun w' => w'.cell? ⟨b, 0, none⟩ = some (.string s1) ∧ w'.cell? ⟨w.heap.size, 7, none⟩ = some (.bool yes)) (by kernel_rfl) ⟨r0, r1⟩ (fun S0 => ?_)
    have HAd := Lib.hid (HA3.out.mod ((Mod.refl w3 []).drew))
    clear HA3 r0 r1
    generalize w3.drew = wd at *
    refine He.wpE_take (i := 0) (v := ?_) rfl (by kernel_rfl) (by kernel_rfl) (by kernel_rfl) (by kernel_rfl) (by kernel_rfl) (fun _ _ _ h => h) (by rfl) ?_ (by assumption) ?_
    rotate_left
    · (intro w' hSw; (try dsimp only at hSw); go_simp; first | done | with_reducible rfl)
    try simp only [List.getElem_toArray, List.getElem_cons_succ, List.getElem_cons_zero, Act.put, List.setIfInBounds_toArray, List.set_cons_zero, List.set_cons_succ]
    refine He.wpE_take (i := 1) (v := ?_) rfl (by kernel_rfl) (by kernel_rfl) (by kernel_rfl) (by kernel_rfl) (by kernel_rfl) (fun _ _ _ h => h) (by rfl) ?_ (by assumption) ?_
    rotate_left
    · (intro w' hSw; (try dsimp only at hSw); go_simp; first | done | with_reducible rfl)
    try simp only [List.getElem_toArray, List.getElem_cons_succ, List.getElem_cons_zero, Act.put, List.setIfInBounds_toArray, List.set_cons_zero, List.set_cons_succ]
    refine He.wpE_take (i := 2) (v := ?_) rfl (by kernel_rfl) (by kernel_rfl) (by kernel_rfl) (by kernel_rfl) (by kernel_rfl) (fun _ _ _ h => h) (by rfl) ?_ (by assumption) ?_
    rotate_left
    · (intro w' hSw; (try dsimp only at hSw); go_simp; first | done | with_reducible rfl)
    try simp only [List.getElem_toArray, List.getElem_cons_succ, List.getElem_cons_zero, Act.put, List.setIfInBounds_toArray, List.set_cons_zero, List.set_cons_succ]
    have FC := Lib.hid (fun w => flag_calls yes w)
    have HFZ := Lib.hid (flagS_size yes)
    generalize flagS yes = fy at *
    have hcat : ¬ 9223372036854775807 < s1.size + fy.size := by have := HFZ.out; omega
    refine He.wpE_one (i := 3) (by kernel_rfl) rfl (by rfl) (fun K hK => ?_)
    go_simp
    (with_reducible refine (FC.out _).mono ?_)
    rintro e w4 ⟨rfl, rfl⟩
    refine hK.out _ _ (fun _ => S0) ?_
    clear hK K
    try simp only [Act.put, List.setIfInBounds_toArray, List.set_cons_zero, List.set_cons_succ]
    refine He.wpE_take (i := 4) (v := ?_) rfl (by kernel_rfl) (by kernel_rfl) (by kernel_rfl) (by kernel_rfl) (by kernel_rfl) (fun _ _ _ h => h) (by rfl) ?_ (by assumption) ?_
    rotate_left
    · (intro w' hSw; (try dsimp only at hSw); go_simp; first | done | with_reducible rfl)
    try simp only [List.getElem_toArray, List.getElem_cons_succ, List.getElem_cons_zero, Act.put, List.setIfInBounds_toArray, List.set_cons_zero, List.set_cons_succ]
    have f3 := HAd.out.bs.free 0
    have g3 := HAd.out.bs.cell 0
    refine He.wpE_one (i := 5) (by kernel_rfl) rfl (by rfl) (fun K hK => ?_)
    go_simp
    refine hK.out _ _ (fun h => absurd rfl h) ?_
    clear hK K
    refine He.wpE_done (by kernel_rfl) ?_
    try simp only [Act.put, List.setIfInBounds_toArray, List.set_cons_zero, List.set_cons_succ]
    have HA5 := Lib.hid (HAd.out.set (s1 ++ fy))
    have hz5 : (s1 ++ fy).size ≤ 64 := by rw [ByteArray.size_append]; have := HFZ.out; omega
    clear HFZ f3 g3 S0 HAd FC hcat
    generalize s1 ++ fy = s5 at *
    generalize wd.setCell _ _ = w5 at *
    have q8 := HA5.out.bm.cell 8
    have PC := Lib.hid (put_calls b w5.heap.size s5 [(es.length : Int)] _ (HA5.out.bs.alloc _) (ints_g w5 _) L1.out (by simp) (by omega))
    simp only [List.length_cons, List.length_nil, List.map_cons, List.map_nil, Nat.zero_add] at PC
    have HA6 := Lib.hid (HA5.out.mod ((Mod.refl w5 []).alloc (.cells #[.int .i64 (es.length : Int)] 3)))
    go_wp2_with fail
    (with_reducible refine (PC.out).mono ?_)
    rintro e w7 ⟨rfl, hm7, hb7⟩
    have HA7 := Lib.hid (HA6.out.stp hm7 hb7)
    clear hm7 hb7 PC HA6 HA5 q8
    rw [← HH.out] at HA7
    have q8 := HA7.out.bm.cell 8
    go_wp2_with fail
    clear q8
    obtain ⟨wo, rfl⟩ : ∃ wo, wo = w7 := ⟨_, rfl⟩
    go_loopw [43] (fun vi wr => ∃ i : Nat, i ≤ es.length ∧ vi = .int .i64 (i : Int) ∧ WrS w w.heap.size b #[.int .i64 kind, .int .i64 frm, .int .i64 dst, .int .i64 term, .int .i64 index, .int .i64 lt, .int .i64 commit, .bool yes, .slice ad es.length cap, .int .i64 si, .int .i64 st, .int .i64 sm, .string sx] ((es.take i).foldl enS HS) wr) (fun vi _ => es.length + 1 - (intOf vi).toNat)
    case atStart => exact ⟨0, Nat.zero_le _, rfl, by rw [List.take_zero]; exact HA7.out⟩
    case round =>
      obtain ⟨i, hi, rfl, hwr⟩ := hrel
      have HR := Lib.hid hwr
      clear hwr HA7
      have hzs : ((es.take i).foldl enS HS).size ≤ 640100 := by
        have h1 := ens_size (es.take i) HS (fun x hx => HES.out x (List.mem_of_mem_take hx))
        have h2 := HZ.out
        have h3 : (es.take i).length ≤ 16 := by rw [List.length_take]; omega
        omega
      by_cases hlt : i < es.length
      · have hlt' : (i : Int) < es.length := by omega
        obtain ⟨ad', cap', e', _, hcs⟩ := HV.out
        injection e' with e1 e2 e3
        subst e1 e3
        obtain ⟨bb, off, hadd, hcs2⟩ := hcs.resolve_left (fun h => by rw [h] at hlt; simp at hlt)
        subst hadd
        obtain ⟨e0, e1, e2', e3⟩ := (hcs2 i hlt).mod HR.out.md
        have HX := HES.out _ (List.getElem_mem hlt)
        have HS2 : Hid ((es.take (i + 1)).foldl enS HS = enS ((es.take i).foldl enS HS) (es[i]'hlt)) := Lib.hid (by rw [List.take_add_one, List.getElem?_eq_getElem hlt, List.foldl_append]; rfl)
        clear hcs hcs2 e2
        generalize es[i]'hlt = x at *
        obtain ⟨xt, xk, xm, xx⟩ := x
        have x0 := HX.t
        have x1 := HX.k
        have x2 := HX.m
        have x3 := HX.x
        simp only at e0 e1 e2' e3 x0 x1 x2 x3
        have HS3 : Hid ((es.take (i + 1)).foldl enS HS = putL ((es.take i).foldl enS HS) [xt, xk, xm] ++ textS xx) := HS2
        clear HX HS2
        generalize (es.take i).foldl enS HS = s8 at *
        have L3x : Hid (∀ x ∈ [xt, xk, xm], 0 ≤ x ∧ x ≤ 9223372036854775807) := Lib.hid (by intro x hx; simp only [List.mem_cons, List.not_mem_nil, or_false] at hx; rcases hx with rfl | rfl | rfl <;> omega)
        have HXB := Lib.hid (Blk.new wr #[.int .i64 xt, .int .i64 xk, .int .i64 xm, .string xx] 77)
        have HA8 := Lib.hid (HR.out.mod ((Mod.refl wr []).alloc (.cells #[.int .i64 xt, .int .i64 xk, .int .i64 xm, .string xx] 77)))
        have PC := Lib.hid (put_calls b _ s8 [xt, xk, xm] _ (HA8.out.bs.alloc _) (ints_g _ _) L3x.out (by simp) (by omega))
        simp only [List.length_cons, List.length_nil, List.map_cons, List.map_nil, Nat.zero_add, World.size_alloc] at PC
        have HA9 := Lib.hid (HA8.out.mod ((Mod.refl _ []).alloc (.cells #[.int .i64 xt, .int .i64 xk, .int .i64 xm] 3)))
        have HXB9 := Lib.hid (HXB.out.alloc (.cells #[.int .i64 xt, .int .i64 xk, .int .i64 xm] 3))
        clear HR HXB HA8 L3x x0 x1 x2
        go_wp2_with fail
        (with_reducible refine (PC.out).mono ?_)
        rintro e w9 ⟨rfl, hm9, hb9⟩
        have HA10 := Lib.hid (HA9.out.stp hm9 hb9)
        have HX10 := Lib.hid (HXB9.out.mod hm9 (by simpa using blk_ne HXB9.out HA9.out.bs (by decide)))
        clear hm9 hb9 PC HA9 HXB9 e0 e1 e2' e3
        have hz9 : (putL s8 [xt, xk, xm]).size ≤ 640127 := by have := (putL_size s8 [xt, xk, xm]).2; simp only [List.length_cons, List.length_nil] at this; omega
        generalize putL s8 [xt, xk, xm] = s9 at *
        have TC := Lib.hid (fun w => btext_calls xx (by omega) w)
        have htz := textS_size xx
        generalize textS xx = tx at *
        go_wp2_with fail
        have r0 := HA10.out.bs.cell 0
        have r1 := HX10.out.cell 3
        refine He.wp_region_e 5 (fun w' => w'.cell? ⟨b, 0, none⟩ = some (.string s9) ∧ w'.cell? ⟨wr.heap.size, 3, none⟩ = some (.string xx)) (by kernel_rfl) ⟨r0, r1⟩ (fun S0 => ?_)
        have HAd := Lib.hid (HA10.out.mod ((Mod.refl w9 []).drew))
        clear HA10 HX10 r0 r1
        generalize w9.drew = wd at *
        refine He.wpE_take (i := 0) (v := ?_) rfl (by kernel_rfl) (by kernel_rfl) (by kernel_rfl) (by kernel_rfl) (by kernel_rfl) (fun _ _ _ h => h) (by rfl) ?_ (by assumption) ?_
        rotate_left
        · (intro w' hSw; (try dsimp only at hSw); go_simp; first | done | with_reducible rfl)
        try simp only [List.getElem_toArray, List.getElem_cons_succ, List.getElem_cons_zero, Act.put, List.setIfInBounds_toArray, List.set_cons_zero, List.set_cons_succ]
        refine He.wpE_take (i := 1) (v := ?_) rfl (by kernel_rfl) (by kernel_rfl) (by kernel_rfl) (by kernel_rfl) (by kernel_rfl) (fun _ _ _ h => h) (by rfl) ?_ (by assumption) ?_
        rotate_left
        · (intro w' hSw; (try dsimp only at hSw); go_simp; first | done | with_reducible rfl)
        try simp only [List.getElem_toArray, List.getElem_cons_succ, List.getElem_cons_zero, Act.put, List.setIfInBounds_toArray, List.set_cons_zero, List.set_cons_succ]
        refine He.wpE_take (i := 2) (v := ?_) rfl (by kernel_rfl) (by kernel_rfl) (by kernel_rfl) (by kernel_rfl) (by kernel_rfl) (fun _ _ _ h => h) (by rfl) ?_ (by assumption) ?_
        rotate_left
        · (intro w' hSw; (try dsimp only at hSw); go_simp; first | done | with_reducible rfl)
        try simp only [List.getElem_toArray, List.getElem_cons_succ, List.getElem_cons_zero, Act.put, List.setIfInBounds_toArray, List.set_cons_zero, List.set_cons_succ]
        have hcat : ¬ 9223372036854775807 < s9.size + tx.size := by omega
        refine He.wpE_one (i := 3) (by kernel_rfl) rfl (by rfl) (fun K hK => ?_)
        go_simp
        (with_reducible refine (TC.out _).mono ?_)
        rintro e w10 ⟨rfl, hm10⟩
        have S10 : w10.cell? ⟨b, 0, none⟩ = some (.string s9) ∧ w10.cell? ⟨wr.heap.size, 3, none⟩ = some (.string xx) := ⟨keepC hm10 S0.1, keepC hm10 S0.2⟩
        have HA11 := Lib.hid (HAd.out.mod hm10)
        refine hK.out _ _ (fun _ => S10) ?_
        clear hK K hm10 S0 HAd
        try simp only [Act.put, List.setIfInBounds_toArray, List.set_cons_zero, List.set_cons_succ]
        refine He.wpE_take (i := 4) (v := ?_) rfl (by kernel_rfl) (by kernel_rfl) (by kernel_rfl) (by kernel_rfl) (by kernel_rfl) (fun _ _ _ h => h) (by rfl) ?_ (by assumption) ?_
        rotate_left
        · (intro w' hSw; (try dsimp only at hSw); go_simp; first | done | with_reducible rfl)
        try simp only [List.getElem_toArray, List.getElem_cons_succ, List.getElem_cons_zero, Act.put, List.setIfInBounds_toArray, List.set_cons_zero, List.set_cons_succ]
        have f3 := HA11.out.bs.free 0
        have g3 := HA11.out.bs.cell 0
        refine He.wpE_one (i := 5) (by kernel_rfl) rfl (by rfl) (fun K hK => ?_)
        go_simp
        refine hK.out _ _ (fun h => absurd rfl h) ?_
        clear hK K
        refine He.wpE_done (by kernel_rfl) ?_
        try simp only [Act.put, List.setIfInBounds_toArray, List.set_cons_zero, List.set_cons_succ]
        have HA12 := Lib.hid (HA11.out.set (s9 ++ tx))
        clear f3 g3 S10 HA11 TC hcat
        generalize wd.setCell _ _ = w12 at *
        go_wp2_with fail
        go_roundw
        case rel => exact ⟨i + 1, by omega, by go_num, by rw [HS3.out]; exact HA12.out⟩
        case measure => simp [intOf]; omega
      · have hge : (es.length : Int) ≤ i := by omega
        have HTK : Hid (es.take i = es) := Lib.hid (List.take_of_length_le (by omega))
        rw [HTK.out] at hzs HR
        clear HTK
        generalize es.foldl enS HS = s8 at *
        have q9 := HR.out.bm.cell 9
        have q10 := HR.out.bm.cell 10
        have q11 := HR.out.bm.cell 11
        have PC := Lib.hid (put_calls b wr.heap.size s8 [si, st, sm] _ (HR.out.bs.alloc _) (ints_g wr _) L3.out (by simp) (by omega))
        simp only [List.length_cons, List.length_nil, List.map_cons, List.map_nil, Nat.zero_add] at PC
        have HA9 := Lib.hid (HR.out.mod ((Mod.refl wr []).alloc (.cells #[.int .i64 si, .int .i64 st, .int .i64 sm] 3)))
        clear HR
        go_wp2_with fail
        (with_reducible refine (PC.out).mono ?_)
        rintro e w9 ⟨rfl, hm9, hb9⟩
        have HA10 := Lib.hid (HA9.out.stp hm9 hb9)
        clear hm9 hb9 PC HA9 q9 q10 q11
        have hz9 : (putL s8 [si, st, sm]).size ≤ 640127 := by have := (putL_size s8 [si, st, sm]).2; simp only [List.length_cons, List.length_nil] at this; omega
        generalize putL s8 [si, st, sm] = s9 at *
        have TC := Lib.hid (fun w => btext_calls sx (by omega) w)
        have htz := textS_size sx
        generalize textS sx = tx at *
        go_wp2_with fail
        have r0 := HA10.out.bs.cell 0
        have r1 := HA10.out.bm.cell 12
        refine He.wp_region_e 7 (fun w' => w'.cell? ⟨b, 0, none⟩ = some (.string s9) ∧ w'.cell? ⟨w.heap.size, 12, none⟩ = some (.string sx)) (by kernel_rfl) ⟨r0, r1⟩ (fun S0 => ?_)
        have HAd := Lib.hid (HA10.out.mod ((Mod.refl w9 []).drew))
        clear HA10 r0 r1
        generalize w9.drew = wd at *
        refine He.wpE_take (i := 0) (v := ?_) rfl (by kernel_rfl) (by kernel_rfl) (by kernel_rfl) (by kernel_rfl) (by kernel_rfl) (fun _ _ _ h => h) (by rfl) ?_ (by assumption) ?_
        rotate_left
        · (intro w' hSw; (try dsimp only at hSw); go_simp; first | done | with_reducible rfl)
        try simp only [List.getElem_toArray, List.getElem_cons_succ, List.getElem_cons_zero, Act.put, List.setIfInBounds_toArray, List.set_cons_zero, List.set_cons_succ]
        refine He.wpE_take (i := 1) (v := ?_) rfl (by kernel_rfl) (by kernel_rfl) (by kernel_rfl) (by kernel_rfl) (by kernel_rfl) (fun _ _ _ h => h) (by rfl) ?_ (by assumption) ?_
        rotate_left
        · (intro w' hSw; (try dsimp only at hSw); go_simp; first | done | with_reducible rfl)
        try simp only [List.getElem_toArray, List.getElem_cons_succ, List.getElem_cons_zero, Act.put, List.setIfInBounds_toArray, List.set_cons_zero, List.set_cons_succ]
        refine He.wpE_take (i := 2) (v := ?_) rfl (by kernel_rfl) (by kernel_rfl) (by kernel_rfl) (by kernel_rfl) (by kernel_rfl) (fun _ _ _ h => h) (by rfl) ?_ (by assumption) ?_
        rotate_left
        · (intro w' hSw; (try dsimp only at hSw); go_simp; first | done | with_reducible rfl)
        try simp only [List.getElem_toArray, List.getElem_cons_succ, List.getElem_cons_zero, Act.put, List.setIfInBounds_toArray, List.set_cons_zero, List.set_cons_succ]
        refine He.wpE_take (i := 3) (v := ?_) rfl (by kernel_rfl) (by kernel_rfl) (by kernel_rfl) (by kernel_rfl) (by kernel_rfl) (fun _ _ _ h => h) (by rfl) ?_ (by assumption) ?_
        rotate_left
        · (intro w' hSw; (try dsimp only at hSw); go_simp; first | done | with_reducible rfl)
        try simp only [List.getElem_toArray, List.getElem_cons_succ, List.getElem_cons_zero, Act.put, List.setIfInBounds_toArray, List.set_cons_zero, List.set_cons_succ]
        have hcat : ¬ 9223372036854775807 < s9.size + tx.size := by omega
        refine He.wpE_one (i := 4) (by kernel_rfl) rfl (by rfl) (fun K hK => ?_)
        go_simp
        (with_reducible refine (TC.out _).mono ?_)
        rintro e w10 ⟨rfl, hm10⟩
        have S10 : w10.cell? ⟨b, 0, none⟩ = some (.string s9) ∧ w10.cell? ⟨w.heap.size, 12, none⟩ = some (.string sx) := ⟨keepC hm10 S0.1, keepC hm10 S0.2⟩
        have HA11 := Lib.hid (HAd.out.mod hm10)
        refine hK.out _ _ (fun _ => S10) ?_
        clear hK K hm10 S0 HAd
        try simp only [Act.put, List.setIfInBounds_toArray, List.set_cons_zero, List.set_cons_succ]
        refine He.wpE_take (i := 5) (v := ?_) rfl (by kernel_rfl) (by kernel_rfl) (by kernel_rfl) (by kernel_rfl) (by kernel_rfl) (fun _ _ _ h => h) (by rfl) ?_ (by assumption) ?_
        rotate_left
        · (intro w' hSw; (try dsimp only at hSw); go_simp; first | done | with_reducible rfl)
        try simp only [List.getElem_toArray, List.getElem_cons_succ, List.getElem_cons_zero, Act.put, List.setIfInBounds_toArray, List.set_cons_zero, List.set_cons_succ]
        refine He.wpE_take (i := 6) (v := ?_) rfl (by kernel_rfl) (by kernel_rfl) (by kernel_rfl) (by kernel_rfl) (by kernel_rfl) (fun _ _ _ h => h) (by rfl) ?_ (by assumption) ?_
        rotate_left
        · (intro w' hSw; (try dsimp only at hSw); go_simp; first | done | with_reducible rfl)
        try simp only [List.getElem_toArray, List.getElem_cons_succ, List.getElem_cons_zero, Act.put, List.setIfInBounds_toArray, List.set_cons_zero, List.set_cons_succ]
        refine He.wpE_one (i := 7) (by kernel_rfl) rfl (by rfl) (fun K hK => ?_)
        go_simp
        refine hK.out _ _ (fun h => absurd rfl h) ?_
        clear hK K
        refine He.wpE_done (by kernel_rfl) ?_
        try simp only [Act.put, List.setIfInBounds_toArray, List.set_cons_zero, List.set_cons_succ]
        clear S10 TC hcat
        go_wp2_with fail
        go_ret2
        exact ⟨ret2 (vstr HW.out.symm) rfl, HA11.out.md⟩
  · rw [if_neg hc, if_neg hc]
    have hc' : checkB m = false := by simpa using hc
    rw [hc'] at CC
    obtain ⟨kind, frm, dst, term, index, lt, commit, yes, es, si, st, sm, sx⟩ := m
    obtain ⟨ad, cap, rfl, hcap, _⟩ := hv
    simp only at hcap hn HV
    clear hc hc' HV
    replace CC : Hid (∀ w' (k : Mod w w' []), Calls Try.prog 32 #[.agg #[.int .i64 kind, .int .i64 frm, .int .i64 dst, .int .i64 term, .int .i64 index, .int .i64 lt, .int .i64 commit, .bool yes, .slice ad es.length cap, .int .i64 si, .int .i64 st, .int .i64 sm, .string sx]] w' fun e w2 => e = .returned (.bool false) ∧ Mod w' w2 []) := CC
    show Calls _ _ #[.agg #[.int .i64 kind, .int .i64 frm, .int .i64 dst, .int .i64 term, .int .i64 index, .int .i64 lt, .int .i64 commit, .bool yes, .slice ad es.length cap, .int .i64 si, .int .i64 st, .int .i64 sm, .string sx]] _ _
    have HM0 := Lib.hid ((Mod.refl w []).alloc (.cells #[.int .i64 kind, .int .i64 frm, .int .i64 dst, .int .i64 term, .int .i64 index, .int .i64 lt, .int .i64 commit, .bool yes, .slice ad es.length cap, .int .i64 si, .int .i64 st, .int .i64 sm, .string sx] 33))
    have C0 := Lib.hid (CC.out _ HM0.out)
    clear CC
    go_enter Try.func29, Try.ntmps29
    go_wp2_with fail
    (with_reducible refine (C0.out).mono ?_)
    rintro e w1 ⟨rfl, hm1⟩
    have HM1 := Lib.hid (HM0.out.trans0 hm1)
    clear hm1
    go_wp2_with fail
    go_ret2
    exact ⟨rfl, HM1.out⟩
end Go.Proofs.Ytgmenlfhkhdbdaa.Ra
