import Derived.Orders
import Derived.Below
namespace Go.Proofs.YtgcpnjckbdajbaaGreatDoor.Ob
open Go

/-- how many are not yet listed -/
def leftIn (n : Nat) (listed : Array Bool) : Nat := (List.range n).countP fun i => !listed.getD i true

theorem count_strict {α : Type} (p q : α → Bool) (l : List α) (hpq : ∀ x ∈ l, q x = true → p x = true) (x : α) (hx : x ∈ l) (h1 : p x = true) (h2 : q x = false) : l.countP q + 1 ≤ l.countP p := by
  induction l with
  | nil => cases hx
  | cons y l ih =>
    have mono : l.countP q ≤ l.countP p := List.countP_mono_left fun z hz h => hpq z (List.mem_cons_of_mem _ hz) h
    by_cases e : x = y
    · subst e
      rw [List.countP_cons_of_pos h1, List.countP_cons_of_neg (by simp [h2])]
      omega
    · have hx' : x ∈ l := by rcases List.mem_cons.1 hx with h | h; exact absurd h e; exact h
      have := ih (fun z hz => hpq z (List.mem_cons_of_mem _ hz)) hx'
      rw [List.countP_cons, List.countP_cons]
      have hy := hpq y (List.mem_cons_self ..)
      by_cases hqy : q y = true
      · simp [hqy, hy hqy]; omega
      · simp [hqy]; omega

theorem getD_set (l : Array Bool) (i j : Nat) (d : Bool) (hi : i < l.size) : (l.setIfInBounds i true).getD j d = if j = i then true else l.getD j d := by
  simp only [Array.getD_eq_getD_getElem?, Array.getElem?_setIfInBounds]
  by_cases h : i = j
  · subst h; simp [hi]
  · rw [if_neg h, if_neg (fun e => h e.symm)]

theorem leftIn_set (n : Nat) (l : Array Bool) (i : Nat) (hi : i < n) (hl : l.size = n) (h0 : l.getD i true = false) : leftIn n (l.setIfInBounds i true) + 1 ≤ leftIn n l := by
  unfold leftIn
  refine count_strict _ _ _ (fun x hx h => ?_) i (List.mem_range.2 hi) (by simp [h0]) (by simp [getD_set _ _ _ _ (by omega : i < l.size)])
  rw [getD_set _ _ _ _ (by omega)] at h
  by_cases e : x = i <;> simp_all

/-- A REGION THAT DRAWS ITS ORDER, BY WHAT EACH OPERATION LEAVES: 'R j': what operation j has left, once it has come; 'Base': what holds throughout. -/
theorem wpAny_good {P : Program} {md : Region.Mode} {ops : Array Oper} {Q : Exit → Act → World → Prop} (n last : Nat) (hn : ops.size = n)
    (acyc : ∀ (i : Nat) (o : Oper), ops[i]? = some o → ∀ e ∈ o.after, e.on < i) (hb : ∀ (i : Nat) (o : Oper), ops[i]? = some o → ∀ e ∈ o.after, Region.binds md e = true)
    (R : Nat → Act → World → Prop) (Base : Act → World → Prop)
    (hall : ∀ g : Nat → Bool, (∀ (i : Nat) (o : Oper), ops[i]? = some o → g i = true → ∀ e ∈ o.after, g e.on = true) → g last = true → ∀ i, i < n → g i = true)
    (hstep : ∀ i, i < n → ∀ a w, Base a w → (∀ o : Oper, ops[i]? = some o → ∀ e ∈ o.after, R e.on a w) → wpOp P ops Q i (fun a' w' => Base a' w' ∧ R i a' w' ∧ ∀ j, j < n → j ≠ i → j ≠ last → R j a w → R j a' w') a w)
    (hend : ∀ a w, Base a w → (∀ j, j < n → R j a w) → Q .normal a w) :
    ∀ fuel (listed : Array Bool) a w, listed.size = n → leftIn n listed ≤ fuel → (∀ (i : Nat) (o : Oper), ops[i]? = some o → listed.getD i true = true → ∀ e ∈ o.after, listed.getD e.on true = true) → Base a w → (∀ j, j < n → listed.getD j true = true → R j a w) → wpAny P md ops Q fuel listed a w := by
  have none_ready : ∀ listed : Array Bool, listed.size = n → Region.ready md ops listed = [] → ∀ i, i < n → listed.getD i true = true := by
    intro listed hsz hr i
    induction i using Nat.strongRecOn with
    | _ i ih =>
      intro hi
      cases hl : listed.getD i true with
      | true => rfl
      | false =>
        exfalso
        have : i ∈ Region.ready md ops listed := by
          unfold Region.ready
          rw [List.mem_filter]
          refine ⟨List.mem_range.2 (by omega), ?_⟩
          have ho : ops[i]? = some ops[i] := Array.getElem?_eq_getElem (by omega)
          rw [hl, ho]
          simp only [Bool.not_false, Bool.true_and, Option.map_some, Option.getD_some, Array.all_eq_true']
          intro e he
          have h1 := acyc i _ ho e he
          have h2 := ih e.on h1 (by omega)
          have h3 : listed.getD e.on false = true := by
            have hlt : e.on < listed.size := by omega
            simp only [Array.getD_eq_getD_getElem?, Array.getElem?_eq_getElem hlt, Option.getD_some] at h2 ⊢
            exact h2
          simp [h3]
        rw [hr] at this
        cases this
  intro fuel
  induction fuel with
  | zero =>
    intro listed a w hsz hf hc hB hR
    have hall' : ∀ i, i < n → listed.getD i true = true := fun i hi => by
      cases hl : listed.getD i true with
      | true => rfl
      | false =>
        exfalso
        have : 0 < leftIn n listed := List.countP_pos_iff.2 ⟨i, List.mem_range.2 hi, by simp [hl]⟩
        omega
    refine ⟨?_, hend a w hB fun j hj => hR j hj (hall' j hj)⟩
    unfold Region.ready
    rw [List.filter_eq_nil_iff]
    intro i hi
    rw [hall' i (by have := List.mem_range.1 hi; omega)]
    simp
  | succ fuel ih =>
    intro listed a w hsz hf hc hB hR
    refine ⟨fun h => hend a w hB fun j hj => hR j hj (none_ready listed hsz h j hj), fun i hi => ?_⟩
    unfold Region.ready at hi
    rw [List.mem_filter] at hi
    obtain ⟨hi1, hi2⟩ := hi
    have hin : i < n := by have := List.mem_range.1 hi1; omega
    simp only [Bool.and_eq_true, Bool.not_eq_true'] at hi2
    obtain ⟨h0, h1⟩ := hi2
    have ho : ops[i]? = some ops[i] := Array.getElem?_eq_getElem (by omega)
    rw [ho] at h1
    simp only [Option.map_some, Option.getD_some, Array.all_eq_true'] at h1
    have dep : ∀ e ∈ (ops[i]'(by omega)).after, listed.getD e.on true = true := fun e he => by
      have h2 := h1 e he
      rw [hb i _ ho e he] at h2
      simp only [Bool.not_true, Bool.false_or] at h2
      have hlt : e.on < listed.size := by have := acyc i _ ho e he; omega
      simp only [Array.getD_eq_getD_getElem?, Array.getElem?_eq_getElem hlt, Option.getD_some] at h2 ⊢
      exact h2
    have hlast : listed.getD last true = true → last < n → False := fun h _ => by
      have := hall (fun k => listed.getD k true) (fun k o hk hg e he => hc k o hk hg e he) h i hin
      rw [h0] at this
      cases this
    refine wpOp_mono ?_ (hstep i hin a w hB fun o ho' e he => ?_)
    · rintro a' w' ⟨hB', hRi, hkeep⟩
      have hs : (listed.setIfInBounds i true).size = n := by simpa using hsz
      refine ih _ a' w' hs ?_ ?_ hB' ?_
      · have := leftIn_set n listed i hin hsz h0
        omega
      · intro k o hk hg e he
        rw [getD_set _ _ _ _ (by omega)] at hg ⊢
        by_cases e1 : e.on = i
        · rw [if_pos e1]
        · rw [if_neg e1]
          by_cases e2 : k = i
          · subst e2
            rw [ho] at hk
            cases hk
            exact dep e he
          · rw [if_neg e2] at hg
            exact hc k o hk hg e he
      · intro j hj hg
        rw [getD_set _ _ _ _ (by omega)] at hg
        by_cases e1 : j = i
        · subst e1; exact hRi
        · rw [if_neg e1] at hg
          by_cases e2 : j = last
          · subst e2; exact (hlast hg hj).elim
          · exact hkeep j hj e1 e2 (hR j hj hg)
    · rw [ho] at ho'
      cases ho'
      exact hR _ (by have := acyc i _ ho e he; omega) (dep e he)

/-- .. at the region -/
theorem wp_region_good {P : Program} {ops : Array Oper} {Q : Exit → Act → World → Prop} {id : Nat} {a : Act} {w : World} (hm : P.follows .mixedOrders = true) (n last : Nat) (hn : ops.size = n)
    (acyc : ∀ (i : Nat) (o : Oper), ops[i]? = some o → ∀ e ∈ o.after, e.on < i) (hb : ∀ (i : Nat) (o : Oper), ops[i]? = some o → ∀ e ∈ o.after, Region.binds .any e = true)
    (R : Nat → Act → World → Prop) (Base : Act → World → Prop)
    (hall : ∀ g : Nat → Bool, (∀ (i : Nat) (o : Oper), ops[i]? = some o → g i = true → ∀ e ∈ o.after, g e.on = true) → g last = true → ∀ i, i < n → g i = true)
    (hB : Base a w.drew)
    (hstep : ∀ i, i < n → ∀ a w, Base a w → (∀ o : Oper, ops[i]? = some o → ∀ e ∈ o.after, R e.on a w) → wpOp P ops Q i (fun a' w' => Base a' w' ∧ R i a' w' ∧ ∀ j, j < n → j ≠ i → j ≠ last → R j a w → R j a' w') a w)
    (hend : ∀ a w, Base a w → (∀ j, j < n → R j a w) → Q .normal a w) : (Code.region id ops true).wp P Q a w := by
  refine wp_region_any hm (wpAny_good n last hn acyc hb R Base hall hstep hend _ _ _ _ (by simp [hn]) ?_ ?_ hB ?_)
  · rw [hn]
    exact Nat.le_trans (List.countP_le_length) (by simp)
  · intro i o ho h
    have hlt : i < ops.size := (Array.getElem?_eq_some_iff.1 ho).1
    simp [hlt] at h
  · intro j hj h
    have : j < ops.size := by omega
    simp [this] at h
end Go.Proofs.YtgcpnjckbdajbaaGreatDoor.Ob
