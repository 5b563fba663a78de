/- Books: the text, plain; the closure that writes a number; what a builder leaves. -/
import Derived.Test.YtceocpohdckkoaaBxA
import Derived.Test.YtceocpohdckkoaaSc
namespace Go.Proofs.Ytceocpohdckkoaa.Bx
open Go.RowKit Mem Bits
set_option linter.unusedSimpArgs false
set_option linter.unusedVariables false
set_option maxRecDepth 100000

def numI (n : Int) : ByteArray := Bt.numS n.toNat
theorem numI_size (n : Int) : 1 ≤ (numI n).size ∧ (numI n).size ≤ 9 := by
  unfold numI; exact ⟨Bt.numS_size_pos _, Bt.numS_size_le _⟩
theorem nil_app (s : ByteArray) : (⟨#[]⟩ : ByteArray) ++ s = s := by
  apply ByteArray.ext; apply Array.ext'; rw [ByteArray.data_append, Array.toList_append]; rfl
theorem strCells_app (a b : ByteArray) : Lib.strCells (a ++ b) = Lib.strCells a ++ Lib.strCells b := by
  unfold Lib.strCells
  rw [ByteArray.data_append, Array.toList_append, List.map_append]
abbrev AtS (w : World) (B b : Nat) (s : ByteArray) : Prop := Sc.At w B b (Lib.strCells s)
/-- Numbers, one behind the other. -/
def putL (s : ByteArray) (l : List Int) : ByteArray := l.foldl (fun s n => s ++ numI n) s
theorem putL_snoc (s : ByteArray) (l : List Int) (x : Int) : putL s (l ++ [x]) = putL s l ++ numI x := by unfold putL; rw [List.foldl_append]; rfl
theorem putL_size (s : ByteArray) (l : List Int) : s.size ≤ (putL s l).size ∧ (putL s l).size ≤ s.size + l.length * 9 := by
  unfold putL
  induction l generalizing s with
  | nil => simp
  | cons x l ih =>
    have h1 := ih (s ++ numI x)
    have h2 := numI_size x
    rw [ByteArray.size_append] at h1
    rw [List.foldl_cons, List.length_cons]
    omega
def rowT (s : ByteArray) (r : List Int) : ByteArray := putL (s ++ numI (r.length : Int)) r
def rowsT (s : ByteArray) (rows : List (List Int)) : ByteArray := rows.foldl rowT s
def headT (base : Int) (n : Nat) : ByteArray := numI base ++ numI (n : Int)
/-- The text of a book. -/
def txt (base : Int) (rows : List (List Int)) : ByteArray := rowsT (headT base rows.length) rows
theorem rowsT_snoc (s : ByteArray) (rows : List (List Int)) (r : List Int) : rowsT s (rows ++ [r]) = rowT (rowsT s rows) r := by unfold rowsT; rw [List.foldl_append]; rfl
theorem rowT_size (s : ByteArray) (r : List Int) (h : r.length ≤ 16) : s.size ≤ (rowT s r).size ∧ (rowT s r).size ≤ s.size + 153 := by
  have h1 := putL_size (s ++ numI (r.length : Int)) r
  have h2 := numI_size (r.length : Int)
  rw [ByteArray.size_append] at h1
  unfold rowT
  omega
theorem rowsT_size (s : ByteArray) : ∀ (rows : List (List Int)), (∀ r ∈ rows, r.length ≤ 16) → s.size ≤ (rowsT s rows).size ∧ (rowsT s rows).size ≤ s.size + 153 * rows.length := by
  intro rows
  unfold rowsT
  induction rows generalizing s with
  | nil => intro _; simp
  | cons r rows ih =>
    intro h
    have h1 := rowT_size s r (h r (by simp))
    have h2 := ih (rowT s r) (fun x hx => h x (by simp [hx]))
    rw [List.foldl_cons, List.length_cons]
    omega
theorem headT_size (base : Int) (n : Nat) : 2 ≤ (headT base n).size ∧ (headT base n).size ≤ 18 := by
  have h1 := numI_size base
  have h2 := numI_size (n : Int)
  unfold headT
  rw [ByteArray.size_append]
  omega

theorem numI_calls (x : Int) (hx : 0 ≤ x ∧ x ≤ 9223372036854775807) (w : World) : Calls Try.prog 53 #[.int .u64 x] w fun e w' => e = .returned (.string (numI x)) ∧ Mod w w' [] := by
  have h := num_calls x.toNat (by omega) w
  rw [Int.toNat_of_nonneg hx.1] at h
  exact h
theorem put_text (B b : Nat) (s : ByteArray) (n : Int) (w : World) (hn : 0 ≤ n ∧ n ≤ 9223372036854775807) (ha : AtS w B b s) (hB : B ≤ w.heap.size) (hs : s.size ≤ 1000000) :
    Calls Try.prog 51 #[.int .i64 n, .pointer (some ⟨b, 0, none⟩)] w fun e w' => e = .returned (.tuple #[]) ∧ AtS w' B b (s ++ numI n) ∧ Sc.Wr B b w w' := by
  have NC := Lib.hid (numI_calls n hn w)
  have h9 := (numI_size n).2
  have WC := Lib.hid (fun w1 (m : Mod w w1 []) => Sc.write_calls B b (Lib.strCells s) (numI n) w1 (Sc.at_mod ha m) (by rw [Lib.strCells_length]; omega) (Nat.le_trans hB m.size))
  have hw := IntWalk.u64_in n (by omega)
  clear ha
  go_enter Try.func51, Try.ntmps51
  go_wp2_with fail
  (with_reducible refine NC.out.mono ?_)
  rintro e w1 ⟨rfl, hm1⟩
  have HM1 := Lib.hid hm1
  clear hm1
  go_wp2_with fail
  (with_reducible refine (WC.out _ HM1.out).mono ?_)
  rintro e w2 ⟨rfl, ha2, hw2⟩
  have HA2 : Hid (AtS w2 B b (s ++ numI n)) := Lib.hid (by have h := ha2; rw [← strCells_app] at h; exact h)
  have HW2 := Lib.hid ((Sc.Wr.mod hB HM1.out).trans hw2)
  clear ha2 hw2
  go_wp2_with fail
  go_end0
  exact ⟨rfl, HA2.out, HW2.out⟩

/-- Whatever block of cells of the types of p was there is there as it was. -/
def KeptT (p : TypeId → Prop) (A B : World) : Prop := ∀ (k : Nat) cs (t : TypeId), Blk A k cs t → p t → Blk B k cs t
def bookTs (t : TypeId) : Prop := t = tM ∨ t = tI ∨ t = tK ∨ t = 23
theorem KeptT.own {p : TypeId → Prop} {A B : World} (h : KeptT p A B) {base : Nat} {e : TypeId} {size : Nat} {v : Value} {n : Nat} {xs : List Value} (he : p e) (ho : A.ownsRow base e size v n xs) : B.ownsRow base e size v n xs := by
  obtain ⟨h0, ⟨rfl, h1⟩ | ⟨g, cap, cur, rfl, hg, hb, h2⟩⟩ := ho
  · exact ⟨h0, .inl ⟨rfl, h1⟩⟩
  · exact ⟨h0, .inr ⟨g, cap, cur, rfl, hg, h _ _ _ hb he, h2⟩⟩
theorem BookAt.keptT {p : TypeId → Prop} (hp : ∀ t, bookTs t → p t) {A B : World} {N : Nat} {X : Nat → Prop} {g : Nat} {base : Int} {rows : List (List Int)} (h : BookAt A N X g base rows) (k : KeptT p A B) : BookAt B N X g base rows := by
  obtain ⟨hN, v, us, h1, h2, h3⟩ := h
  refine ⟨hN, v, us, k _ _ _ h1 (hp _ (.inr (.inr (.inl rfl)))), ?_, all2_mono (fun _ _ h => ?_) h3⟩
  · rcases h2 with h | ⟨q, h1, ⟨cs0, h0'⟩, h2⟩
    · exact .inl (k.own (hp _ (.inl rfl)) h)
    · refine .inr ⟨q, h1, ⟨cs0, k _ _ _ h0' (hp _ (.inl rfl))⟩, fun h0 => ?_⟩
      obtain ⟨b, off, cs', q1, q2, q3, q4⟩ := h2 h0
      exact ⟨b, off, cs', q1, q2, k _ _ _ q3 (hp _ (.inl rfl)), q4⟩
  · obtain ⟨b, cap, h1, h2, h3, h4⟩ := h
    exact ⟨b, cap, h1, h2, h3, k.own (hp _ (.inr (.inl rfl))) h4⟩
theorem Src.keptT {p : TypeId → Prop} (hp : ∀ t, bookTs t → p t) {D N g : Nat} {base : Int} {rows : List (List Int)} {B0 B1 : Nat} {n : Int} {A B : World} (h : Src D N g base rows B0 B1 n A) (k : KeptT p A B) (hs : A.heap.size ≤ B.heap.size) : Src D N g base rows B0 B1 n B :=
  ⟨Nat.le_trans h.size hs, h.book.keptT hp k, k _ _ _ h.b0 (hp _ (.inr (.inr (.inr rfl)))), k _ _ _ h.b1 (hp _ (.inr (.inl rfl)))⟩
theorem Fresh.keptT {p : TypeId → Prop} (hp : p tI) {D : Nat} {A B : World} {u : Value} {xs : List Int} (h : Fresh D A u xs) (k : KeptT p A B) : Fresh D B u xs := by
  obtain ⟨hne, b, cap, h1, h2⟩ := h
  exact ⟨hne, b, cap, h1, k.own hp h2⟩
/-- The types that a builder's writing leaves. -/
def notB (t : TypeId) : Prop := t ≠ Sc.t8 ∧ t ≠ Sc.tB
theorem at_blk {w : World} {B b : Nat} {bs : List Value} (h : Sc.At w B b bs) : ∃ cs, Blk w b cs Sc.tB := by
  rcases h with h | h <;> (obtain ⟨_, v, hb, _⟩ := h; exact ⟨_, hb⟩)
theorem wr_kept {B b : Nat} {w w' : World} {bs : List Value} (h : Sc.Wr B b w w') (ha : Sc.At w B b bs) : KeptT notB w w' := fun k cs t hb ht => h.keep k cs t hb ht.1 (by
  obtain ⟨ds, hd⟩ := at_blk ha
  exact blk_ne hb hd ht.2)
theorem bookTs_notB (t : TypeId) (h : bookTs t) : notB t := by
  rcases h with rfl | rfl | rfl | rfl <;> exact ⟨by decide, by decide⟩
theorem wr_from {B b : Nat} {w w' : World} (h : Sc.Wr B b w w') (D : Nat) : KeepsFrom D w w' := ⟨h.below.size, fun k o _ hk ho => h.other k o hk ho⟩
end Go.Proofs.Ytceocpohdckkoaa.Bx
