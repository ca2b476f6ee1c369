import Derived.Test.YtgcpnjckbdajbaaGreatDoorQB
import Derived.Lib.ItoaLen
namespace Go.Proofs.YtgcpnjckbdajbaaGreatDoor.Ob
open Go.RowKit Go.Sort

/-- eight bytes as a number -/
def word8 (l : List Int) : Nat := l.foldl (fun x c => x * 256 + c.toNat) 0
def chunkAt (l : List Int) (k : Nat) : List Int := (l.drop (8 * k)).take 8
def wObject : List UInt8 := [111, 98, 106, 101, 99, 116]
def wText : List UInt8 := [116, 101, 120, 116]
def wData : List UInt8 := [100, 97, 116, 97]
def wSyms : List UInt8 := [115, 121, 109, 115]
def wRels : List UInt8 := [114, 101, 108, 115]
def wEnd : List UInt8 := [101, 110, 100]
def hexLine (x : Int) : List UInt8 := lineText (hexN 8 x.toNat) []
def dataLine (l : List Int) (k : Nat) : List UInt8 := lineText (hexN 16 (word8 (chunkAt l k))) []
def symLine (s : SymV) : List UInt8 := lineText s.name.data.toList [s.sect, s.value, s.frame, if s.glob then 1 else 0]
def relLine (r : RelV) : List UInt8 := lineText (Lib.itoa r.sect) [r.place, r.kind, r.sym, r.add]
def t0 : List UInt8 := lineText wObject []
def t1 (o : ObjV) : List UInt8 := t0 ++ lineText wText [(o.text.length : Int)]
def t2 (o : ObjV) (i : Nat) : List UInt8 := t1 o ++ (o.text.take i).flatMap hexLine
def t3 (o : ObjV) : List UInt8 := t2 o o.text.length ++ lineText wData [(o.data.length : Int)]
def t4 (o : ObjV) (i : Nat) : List UInt8 := t3 o ++ (List.range i).flatMap (dataLine o.data)
def t5 (o : ObjV) : List UInt8 := t4 o (o.data.length / 8) ++ lineText wSyms [(o.syms.length : Int)]
def t6 (o : ObjV) (i : Nat) : List UInt8 := t5 o ++ (o.syms.take i).flatMap symLine
def t7 (o : ObjV) : List UInt8 := t6 o o.syms.length ++ lineText wRels [(o.rels.length : Int)]
def t8 (o : ObjV) (i : Nat) : List UInt8 := t7 o ++ (o.rels.take i).flatMap relLine
/-- an object's text -/
def textOf (o : ObjV) : List UInt8 := t8 o o.rels.length ++ lineText wEnd []

def I64 (n : Int) : Prop := -9223372036854775808 ≤ n ∧ n ≤ 9223372036854775807
theorem itoa_le {n : Int} (h : I64 n) : (Lib.itoa n).length ≤ 21 := Lib.itoa_length_le n h.1 h.2
theorem tail_le {xs : List Int} (h : ∀ x ∈ xs, I64 x) : (numTail xs).length ≤ 22 * xs.length := by
  induction xs with
  | nil => simp [numTail]
  | cons x xs ih =>
    have h1 := itoa_le (h x (by simp))
    have h2 := ih (fun y hy => h y (by simp [hy]))
    simp only [numTail, List.flatMap_cons, List.length_append, List.length_cons] at h2 ⊢
    omega
theorem line_le {word : List UInt8} {xs : List Int} (h : ∀ x ∈ xs, I64 x) : (lineText word xs).length ≤ word.length + 22 * xs.length + 1 := by
  have := tail_le h
  simp only [lineText, List.length_append, List.length_cons, List.length_nil]
  omega
theorem flat_le {α : Type} {f : α → List UInt8} {l : List α} {c : Nat} (h : ∀ x ∈ l, (f x).length ≤ c) : (l.flatMap f).length ≤ l.length * c := by
  induction l with
  | nil => simp
  | cons x l ih =>
    have h1 := h x (by simp)
    have h2 := ih (fun y hy => h y (by simp [hy]))
    simp only [List.flatMap_cons, List.length_append, List.length_cons, Nat.succ_mul]
    omega
/-- the numbers of an object fit, its names are no longer than they may be -/
structure Fits (o : ObjV) : Prop where
  text : ∀ x ∈ o.text, 0 ≤ x ∧ x < 4294967296
  data : ∀ x ∈ o.data, 0 ≤ x ∧ x < 256
  syms : ∀ s ∈ o.syms, s.name.size ≤ 200 ∧ I64 s.sect ∧ I64 s.value ∧ I64 s.frame
  rels : ∀ r ∈ o.rels, I64 r.sect ∧ I64 r.place ∧ I64 r.kind ∧ I64 r.sym ∧ I64 r.add
  n0 : o.text.length ≤ 65536
  n1 : o.data.length ≤ 65536
  n1' : o.data.length % 8 = 0
  n2 : o.syms.length ≤ 600
  n3 : o.rels.length ≤ 65536
theorem hexLine_le (x : Int) : (hexLine x).length ≤ 9 := by
  have := line_le (word := hexN 8 x.toNat) (xs := []) (by simp)
  rw [hexN_len] at this
  exact this
theorem dataLine_le (l : List Int) (k : Nat) : (dataLine l k).length ≤ 17 := by
  have := line_le (word := hexN 16 (word8 (chunkAt l k))) (xs := []) (by simp)
  rw [hexN_len] at this
  exact this
theorem glob_I64 (b : Bool) : I64 (if b then 1 else 0) := by cases b <;> (constructor <;> decide)
theorem symLine_le {o : ObjV} (F : Fits o) {s : SymV} (h : s ∈ o.syms) : (symLine s).length ≤ 289 := by
  obtain ⟨h1, h2, h3, h4⟩ := F.syms s h
  have := line_le (word := s.name.data.toList) (xs := [s.sect, s.value, s.frame, if s.glob then 1 else 0]) (by
    intro x hx
    simp only [List.mem_cons, List.not_mem_nil, or_false] at hx
    rcases hx with rfl | rfl | rfl | rfl
    · exact h2
    · exact h3
    · exact h4
    · exact glob_I64 _)
  have e : s.name.data.toList.length = s.name.size := rfl
  rw [e] at this
  simp only [List.length_cons, List.length_nil] at this
  unfold symLine
  omega
theorem relLine_le {o : ObjV} (F : Fits o) {r : RelV} (h : r ∈ o.rels) : (relLine r).length ≤ 110 := by
  obtain ⟨h1, h2, h3, h4, h5⟩ := F.rels r h
  have := line_le (word := Lib.itoa r.sect) (xs := [r.place, r.kind, r.sym, r.add]) (by
    intro x hx
    simp only [List.mem_cons, List.not_mem_nil, or_false] at hx
    rcases hx with rfl | rfl | rfl | rfl <;> assumption)
  have := itoa_le h1
  simp only [List.length_cons, List.length_nil] at *
  unfold relLine
  omega
theorem nat_I64 {n : Nat} (h : n ≤ 65536) : I64 (n : Int) := ⟨by omega, by omega⟩
theorem one_le {word : List UInt8} {n : Nat} (hn : n ≤ 65536) (hw : word.length ≤ 10) : (lineText word [(n : Int)]).length ≤ 33 := by
  have := line_le (word := word) (xs := [(n : Int)]) (by intro x hx; simp only [List.mem_cons, List.not_mem_nil, or_false] at hx; rw [hx]; exact nat_I64 hn)
  simp only [List.length_cons, List.length_nil] at this
  omega
theorem t0_le : t0.length = 7 := by decide
theorem t1_le {o : ObjV} (F : Fits o) : (t1 o).length ≤ 40 := by
  have := one_le (word := wText) F.n0 (by decide)
  have := t0_le
  simp only [t1, List.length_append]
  omega
theorem t2_le {o : ObjV} (F : Fits o) (i : Nat) : (t2 o i).length ≤ 589864 := by
  have h1 := t1_le F
  have h2 := flat_le (f := hexLine) (l := o.text.take i) (c := 9) (fun x _ => hexLine_le x)
  have h3 := F.n0
  have h4 : (o.text.take i).length ≤ o.text.length := by rw [List.length_take]; omega
  simp only [t2, List.length_append]
  omega
theorem t3_le {o : ObjV} (F : Fits o) : (t3 o).length ≤ 589897 := by
  have h1 := t2_le F o.text.length
  have := one_le (word := wData) F.n1 (by decide)
  simp only [t3, List.length_append]
  omega
theorem t4_le {o : ObjV} (F : Fits o) (i : Nat) (hi : i ≤ 8192) : (t4 o i).length ≤ 729161 := by
  have h1 := t3_le F
  have h2 := flat_le (f := dataLine o.data) (l := List.range i) (c := 17) (fun x _ => dataLine_le _ x)
  rw [List.length_range] at h2
  simp only [t4, List.length_append]
  omega
theorem t5_le {o : ObjV} (F : Fits o) : (t5 o).length ≤ 729194 := by
  have h1 := t4_le F (o.data.length / 8) (by have := F.n1; omega)
  have h3 := F.n2
  have := one_le (word := wSyms) (n := o.syms.length) (by omega) (by decide)
  simp only [t5, List.length_append]
  omega
theorem t6_le {o : ObjV} (F : Fits o) (i : Nat) : (t6 o i).length ≤ 902594 := by
  have h1 := t5_le F
  have h2 := flat_le (f := symLine) (l := o.syms.take i) (c := 289) (fun x hx => symLine_le F (List.mem_of_mem_take hx))
  have h3 := F.n2
  have h4 : (o.syms.take i).length ≤ o.syms.length := by rw [List.length_take]; omega
  simp only [t6, List.length_append]
  omega
theorem t7_le {o : ObjV} (F : Fits o) : (t7 o).length ≤ 902627 := by
  have h1 := t6_le F o.syms.length
  have := one_le (word := wRels) F.n3 (by decide)
  simp only [t7, List.length_append]
  omega
theorem t8_le {o : ObjV} (F : Fits o) (i : Nat) : (t8 o i).length ≤ 8111587 := by
  have h1 := t7_le F
  have h2 := flat_le (f := relLine) (l := o.rels.take i) (c := 110) (fun x hx => relLine_le F (List.mem_of_mem_take hx))
  have h3 := F.n3
  have h4 : (o.rels.take i).length ≤ o.rels.length := by rw [List.length_take]; omega
  simp only [t8, List.length_append]
  omega
theorem take_flat {α : Type} {f : α → List UInt8} {l : List α} {i : Nat} (h : i < l.length) : (l.take (i + 1)).flatMap f = (l.take i).flatMap f ++ f l[i] := by
  rw [List.take_add_one, List.getElem?_eq_getElem h, List.flatMap_append]
  simp
theorem wf_I64 {n : Int} (h : (Lit.int .i64 n).wf = true) : I64 n := by
  simp only [Lit.wf, Bool.and_eq_true, decide_eq_true_iff, show IntKind.i64.min = -9223372036854775808 from rfl, show IntKind.i64.max = 9223372036854775807 from rfl] at h
  exact h
theorem u32_range {x : Int} (h : (Lit.int .u32 x).wf = true) : 0 ≤ x ∧ x < 4294967296 := by
  simp only [Lit.wf, Bool.and_eq_true, decide_eq_true_iff, show IntKind.u32.min = 0 from rfl, show IntKind.u32.max = 4294967295 from rfl] at h
  omega
theorem sym_good {o : ObjV} (h : (List.range o.syms.length).all (symOk o) = true) {s : SymV} (hs : s ∈ o.syms) : nameOk s.name = true := by
  obtain ⟨i, hi, rfl⟩ := List.mem_iff_getElem.1 hs
  have := List.all_eq_true.1 h i (List.mem_range.2 hi)
  unfold symOk at this
  rw [List.getElem?_eq_getElem hi] at this
  simp only [Bool.and_eq_true] at this
  exact this.1
theorem fits_of {o : ObjV} (K : o.Ok) (G : good o = true) : Fits o := by
  unfold good sizeOk at G
  simp only [Bool.and_eq_true, decide_eq_true_iff] at G
  obtain ⟨⟨g0, g1, g2, g3, g4⟩, g5, g6⟩ := G
  refine ⟨fun x hx => u32_range (K.text x hx), fun x hx => u8_range (K.data x hx), fun s hs => ?_, fun r hr => ?_, g0, g1, g2, g3, g4⟩
  · have hn := sym_good g5 hs
    unfold nameOk at hn
    simp only [Bool.and_eq_true, decide_eq_true_iff] at hn
    obtain ⟨_, h2, h3, h4⟩ := K.syms s hs
    exact ⟨by omega, wf_I64 h2, wf_I64 h3, wf_I64 h4⟩
  · obtain ⟨h1, h2, h3, h4, h5⟩ := K.rels r hr
    exact ⟨wf_I64 h1, wf_I64 h2, wf_I64 h3, wf_I64 h4, wf_I64 h5⟩
theorem word8_snoc (l : List Int) (c : Int) : word8 (l ++ [c]) = word8 l * 256 + c.toNat := by simp [word8]
theorem word8_lt : ∀ (n : Nat) (l : List Int), l.length = n → (∀ x ∈ l, 0 ≤ x ∧ x < 256) → word8 l < 256 ^ n := by
  intro n
  induction n with
  | zero =>
    intro l hl _
    obtain rfl := List.eq_nil_of_length_eq_zero hl
    decide
  | succ n ih =>
    intro l hl hx
    have hne : l ≠ [] := by intro e; subst e; simp at hl
    obtain ⟨l', c, rfl⟩ : ∃ l' c, l = l' ++ [c] := ⟨l.dropLast, l.getLast hne, (List.dropLast_concat_getLast hne).symm⟩
    have h1 := ih l' (by simpa using hl) (fun x h => hx x (by simp [h]))
    have h2 := hx c (by simp)
    rw [word8_snoc, Nat.pow_succ]
    omega
theorem or_byte (x : Nat) (c : Int) (hx : x * 256 < 18446744073709551616) (h0 : 0 ≤ c) (h1 : c < 256) : Go.bits BinOp.or IntKind.u64 ((x : Int) * 256) c = ((x * 256 + c.toNat : Nat) : Int) := by
  obtain ⟨n, rfl⟩ : ∃ n : Nat, c = n := ⟨c.toNat, by omega⟩
  rw [show (x : Int) * 256 = ((x * 256 : Nat) : Int) by omega, bits_or_u64_nat _ n hx (by omega)]
  congr 1
  have h := Nat.shiftLeft_add_eq_or_of_lt (i := 8) (b := n) (by omega) x
  rw [Nat.shiftLeft_eq] at h
  simpa using h.symm
theorem chunk_len {l : List Int} {k : Nat} (h : k < l.length / 8) : (chunkAt l k).length = 8 := by
  unfold chunkAt
  rw [List.length_take, List.length_drop]
  omega
theorem chunk_get {l : List Int} {k i : Nat} (hi : i < 8) : (chunkAt l k)[i]? = l[8 * k + i]? := by
  unfold chunkAt
  rw [List.getElem?_take_of_lt hi, List.getElem?_drop]
theorem chunk_mem {l : List Int} {k : Nat} {x : Int} (h : x ∈ chunkAt l k) : x ∈ l := List.mem_of_mem_drop (List.mem_of_mem_take h)
end Go.Proofs.YtgcpnjckbdajbaaGreatDoor.Ob
