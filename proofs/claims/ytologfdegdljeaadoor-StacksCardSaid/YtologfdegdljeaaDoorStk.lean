/- The stack of arguments, in plain words: where each argument lies, what memory holds. -/
import Derived.Test.YtologfdegdljeaaDoorIter
namespace Go.Proofs.YtologfdegdljeaaDoor
open Go.RowKit
set_option maxRecDepth 100000

/-- How far the stack has grown: its end, memory, the addresses. -/
structure StS where
  e : Int
  M : Nat → Int
  A : Nat → Int
def arg (ss : List ByteArray) (i : Nat) : List Int := bts (ss.getD i ⟨#[]⟩)
def stStep (ss : List ByteArray) (st : StS) (i : Nat) : StS :=
  ⟨st.e - ((arg ss i).length + 1), pokeM st.M (st.e - ((arg ss i).length + 1)).toNat (arg ss i), setF st.A i (st.e - ((arg ss i).length + 1))⟩
def stOf (ss : List ByteArray) (is : List Nat) : StS := is.foldl (stStep ss) ⟨65536, fun _ => 0, fun _ => 0⟩
theorem stOf_snoc (ss : List ByteArray) (is : List Nat) (i : Nat) : stOf ss (is ++ [i]) = stStep ss (stOf ss is) i := by simp [stOf]
def goodA (l : List Int) : Bool := decide (l.length ≤ 30) && !decide ((0 : Int) ∈ l)
theorem goodA_iff {l : List Int} : goodA l = true ↔ l.length ≤ 30 ∧ (0 : Int) ∉ l := by simp [goodA]
def Good (ss : List ByteArray) : Prop := ∀ i, i < ss.length → goodA (arg ss i) = true
theorem arg_byte (ss : List ByteArray) (i : Nat) : ∀ x ∈ arg ss i, 0 ≤ x ∧ x ≤ 255 := bts_byte _

theorem snoc_ind {α : Type} {p : List α → Prop} (h0 : p []) (h1 : ∀ l a, p l → p (l ++ [a])) (l : List α) : p l := by
  have : ∀ l : List α, p l.reverse := by
    intro l
    induction l with
    | nil => exact h0
    | cons a l ih => rw [List.reverse_cons]; exact h1 _ _ ih
  have h := this l.reverse
  rwa [List.reverse_reverse] at h
theorem st_bound (ss : List ByteArray) : ∀ is : List Nat, (∀ i ∈ is, (arg ss i).length ≤ 30) → 65536 - 31 * is.length ≤ (stOf ss is).e ∧ (stOf ss is).e ≤ 65536 := by
  refine snoc_ind ?_ ?_
  · intro _; simp [stOf]
  · intro is i ih h
    have ih := ih fun j hj => h j (by simp [hj])
    have hi := h i (by simp)
    rw [stOf_snoc]
    simp only [stStep, List.length_append, List.length_singleton]
    omega
theorem st_addr (ss : List ByteArray) : ∀ is : List Nat, (∀ i ∈ is, (arg ss i).length ≤ 30) → is.length ≤ 8 → ∀ j, (stOf ss is).A j = 0 ∨ (65288 ≤ (stOf ss is).A j ∧ (stOf ss is).A j ≤ 65535) := by
  refine snoc_ind ?_ ?_
  · intro _ _ j; left; rfl
  · intro is i ih h hl j
    simp only [List.length_append, List.length_singleton] at hl
    have ih := ih (fun j hj => h j (by simp [hj])) (by omega) j
    have hi := h i (by simp)
    have hb := st_bound ss is fun j hj => h j (by simp [hj])
    rw [stOf_snoc]
    simp only [stStep, setF]
    split
    · right; omega
    · exact ih

/-- The words behind the stack pointer: how many, each address, nothing. -/
def wordAt (st : StS) (n k : Nat) : Int := if k = 0 then n else if k ≤ n then st.A (k - 1) else 0
def spOf (st : StS) (n : Nat) : Int := (st.e - 8 * (n + 2)) / 16 * 16
def finTo (st : StS) (n : Nat) : Nat → (Nat → Int)
  | 0 => st.M
  | k + 1 => pokeM (finTo st n k) ((spOf st n).toNat + 8 * k) (bytes8 (wordAt st n k))

theorem bytes8_length (n : Int) : (bytes8 n).length = 8 := rfl
theorem bytes8_zero : bytes8 0 = List.replicate 8 0 := by decide
theorem numV_bytes8 (n : Int) (h0 : 0 ≤ n) (h1 : n < 18446744073709551616) : numV (bytes8 n) = n := by
  simp only [bytes8, numV]
  omega
theorem bytes8_byte (n : Int) (h0 : 0 ≤ n) (h1 : n < 18446744073709551616) : ∀ x ∈ bytes8 n, 0 ≤ x ∧ x ≤ 255 := by
  intro x hx
  simp only [bytes8, List.mem_cons, List.not_mem_nil, or_false] at hx
  omega

theorem pokeM_out (M : Nat → Int) (A : Nat) (l : List Int) (a : Nat) (h : a < A ∨ A + l.length ≤ a) : pokeM M A l a = M a := by
  unfold pokeM; rw [if_neg (by omega)]
theorem pokeM_in (M : Nat → Int) (A : Nat) (l : List Int) (j : Nat) (h : j < l.length) : pokeM M A l (A + j) = l.getD j 0 := by
  unfold pokeM; rw [if_pos ⟨by omega, by omega⟩, Nat.add_sub_cancel_left]
theorem fin_out (st : StS) (n : Nat) (a : Nat) : ∀ k, (a < (spOf st n).toNat ∨ (spOf st n).toNat + 8 * k ≤ a) → finTo st n k a = st.M a
  | 0, _ => rfl
  | k + 1, h => by
    rw [finTo, pokeM_out _ _ _ _ (by rw [bytes8_length]; omega)]
    exact fin_out st n a k (by omega)
theorem fin_in (st : StS) (n : Nat) (k j : Nat) (hj : j < 8) : ∀ m, k < m → finTo st n m ((spOf st n).toNat + 8 * k + j) = (bytes8 (wordAt st n k)).getD j 0
  | 0, h => by omega
  | m + 1, h => by
    by_cases e : k = m
    · subst e
      rw [finTo, pokeM_in _ _ _ _ (by rw [bytes8_length]; exact hj)]
    · rw [finTo, pokeM_out _ _ _ _ (by rw [bytes8_length]; omega)]
      exact fin_in st n k j hj m (by omega)

/-- All that was laid is there. -/
structure Laid (ss : List ByteArray) (st : StS) (k : Nat) : Prop where
  low : ∀ a : Nat, (a : Int) < st.e → st.M a = 0
  at_ : ∀ i, k ≤ i → i < ss.length → st.e ≤ st.A i ∧ st.A i + (arg ss i).length + 1 ≤ 65536 ∧ (∀ j, j < (arg ss i).length → st.M ((st.A i).toNat + j) = (arg ss i).getD j 0) ∧ st.M ((st.A i).toNat + (arg ss i).length) = 0
theorem laid_step (ss : List ByteArray) (st : StS) (k : Nat) (hk : k < ss.length) (h : Laid ss st (k + 1)) (h0 : (arg ss k).length + 1 ≤ st.e) (h1 : st.e ≤ 65536) : Laid ss (stStep ss st k) k := by
  obtain ⟨hlow, hat⟩ := h
  refine ⟨fun a ha => ?_, fun i hi hin => ?_⟩
  · simp only [stStep] at ha ⊢
    rw [pokeM_out _ _ _ _ (by omega)]
    exact hlow a (by omega)
  · simp only [stStep, setF]
    by_cases e : i = k
    · subst e
      rw [if_pos rfl]
      refine ⟨Int.le_refl _, by omega, fun j hj => pokeM_in _ _ _ _ hj, ?_⟩
      rw [pokeM_out _ _ _ _ (by omega)]
      exact hlow _ (by omega)
    · obtain ⟨g1, g2, g3, g4⟩ := hat i (by omega) hin
      rw [if_neg e]
      refine ⟨by omega, g2, fun j hj => ?_, ?_⟩
      · rw [pokeM_out _ _ _ _ (by omega)]; exact g3 j hj
      · rw [pokeM_out _ _ _ _ (by omega)]; exact g4

theorem laid_all (ss : List ByteArray) (hg : Good ss) (hn : ss.length ≤ 8) : ∀ m, m ≤ ss.length → Laid ss (stOf ss (revTo ss.length (ss.length - m))) (ss.length - m)
  | 0, _ => ⟨fun a _ => by rw [Nat.sub_zero, revTo_self]; rfl, fun i h1 h2 => by omega⟩
  | m + 1, h => by
    have ih := laid_all ss hg hn m (by omega)
    rw [revTo_step _ (ss.length - (m + 1)) (by omega), show ss.length - (m + 1) + 1 = ss.length - m from by omega, stOf_snoc]
    have hlen : ∀ i ∈ revTo ss.length (ss.length - m), (arg ss i).length ≤ 30 := fun i hi => by
      have : i < ss.length := by
        unfold revTo at hi
        exact List.mem_range.1 (List.mem_of_mem_drop (List.mem_reverse.1 hi))
      exact (goodA_iff.1 (hg i this)).1
    have hb := st_bound ss _ hlen
    rw [revTo_length] at hb
    have hk := (goodA_iff.1 (hg (ss.length - (m + 1)) (by omega))).1
    exact laid_step ss _ (ss.length - (m + 1)) (by omega) (by rw [show ss.length - (m + 1) + 1 = ss.length - m from by omega]; exact ih) (by omega) hb.2
def stAll (ss : List ByteArray) : StS := stOf ss (revTo ss.length 0)
theorem stAll_laid (ss : List ByteArray) (hg : Good ss) (hn : ss.length ≤ 8) : Laid ss (stAll ss) 0 := by
  have := laid_all ss hg hn ss.length (Nat.le_refl _)
  rwa [Nat.sub_self] at this
theorem rev_mem {n k i : Nat} (h : i ∈ revTo n k) : i < n := by
  unfold revTo at h
  exact List.mem_range.1 (List.mem_of_mem_drop (List.mem_reverse.1 h))
theorem stAll_bound (ss : List ByteArray) (hg : Good ss) (hn : ss.length ≤ 8) : 65288 ≤ (stAll ss).e ∧ (stAll ss).e ≤ 65536 := by
  have := st_bound ss (revTo ss.length 0) fun i hi => (goodA_iff.1 (hg i (rev_mem hi))).1
  rw [revTo_length] at this
  unfold stAll
  omega
theorem sp_bound (ss : List ByteArray) (hg : Good ss) (hn : ss.length ≤ 8) : 65024 ≤ spOf (stAll ss) ss.length ∧ spOf (stAll ss) ss.length + 8 * (ss.length + 2) ≤ (stAll ss).e ∧ spOf (stAll ss) ss.length % 16 = 0 := by
  have := stAll_bound ss hg hn
  unfold spOf
  omega
theorem word_bound (ss : List ByteArray) (hg : Good ss) (hn : ss.length ≤ 8) (k : Nat) : 0 ≤ wordAt (stAll ss) ss.length k ∧ wordAt (stAll ss) ss.length k < 65536 := by
  unfold wordAt
  have := st_addr ss (revTo ss.length 0) (fun i hi => (goodA_iff.1 (hg i (rev_mem hi))).1) (by rw [revTo_length]; omega) (k - 1)
  have e : (stOf ss (revTo ss.length 0)) = stAll ss := rfl
  rw [e] at this
  split
  · omega
  · split <;> omega

/-- Memory behind it all; the last word is nothing, as memory was. -/
def memOf (ss : List ByteArray) : Nat → Int := finTo (stAll ss) ss.length (ss.length + 2)
theorem mem_last (ss : List ByteArray) (hg : Good ss) (hn : ss.length ≤ 8) : finTo (stAll ss) ss.length (ss.length + 1) = memOf ss := by
  funext a
  have e : memOf ss = pokeM (finTo (stAll ss) ss.length (ss.length + 1)) ((spOf (stAll ss) ss.length).toNat + 8 * (ss.length + 1)) (bytes8 (wordAt (stAll ss) ss.length (ss.length + 1))) := rfl
  rw [e]
  unfold pokeM
  split
  · rename_i h
    rw [bytes8_length] at h
    have hl := stAll_laid ss hg hn
    have hs := sp_bound ss hg hn
    rw [fin_out _ _ _ _ (by omega), hl.low a (by omega)]
    have : wordAt (stAll ss) ss.length (ss.length + 1) = 0 := by unfold wordAt; rw [if_neg (by omega), if_neg (by omega)]
    rw [this, bytes8_zero, List.getD_eq_getElem?_getD, List.getElem?_replicate]
    split <;> rfl
  · rfl
theorem mem_word (ss : List ByteArray) (k j : Nat) (hk : k < ss.length + 2) (hj : j < 8) : memOf ss ((spOf (stAll ss) ss.length).toNat + 8 * k + j) = (bytes8 (wordAt (stAll ss) ss.length k)).getD j 0 :=
  fin_in _ _ k j hj _ hk
theorem mem_arg (ss : List ByteArray) (hg : Good ss) (hn : ss.length ≤ 8) (i : Nat) (hi : i < ss.length) :
    (stAll ss).e ≤ (stAll ss).A i ∧ (stAll ss).A i + (arg ss i).length + 1 ≤ 65536 ∧ (∀ j, j < (arg ss i).length → memOf ss (((stAll ss).A i).toNat + j) = (arg ss i).getD j 0) ∧ memOf ss (((stAll ss).A i).toNat + (arg ss i).length) = 0 := by
  obtain ⟨h1, h2, h3, h4⟩ := (stAll_laid ss hg hn).at_ i (Nat.zero_le _) hi
  have hs := sp_bound ss hg hn
  refine ⟨h1, h2, fun j hj => ?_, ?_⟩
  · unfold memOf; rw [fin_out _ _ _ _ (by omega)]; exact h3 j hj
  · unfold memOf; rw [fin_out _ _ _ _ (by omega)]; exact h4

/-- The document's put and copy, as addresses. -/
theorem setF_at (f : Nat → Int) (i : Nat) (x : Int) (j : Nat) : setF f i x j = if j = i then x else f j := rfl
theorem putF_poke (M : Nat → Int) (B o : Nat) (n : Int) : putF (fun j => M (B + j)) o n = fun j => pokeM M (B + o) (bytes8 n) (B + j) := by
  funext j
  unfold putF
  simp only [setF_at]
  unfold pokeM
  rw [bytes8_length]
  by_cases h : B + o ≤ B + j ∧ B + j < B + o + 8
  · rw [if_pos h]
    have : j = o ∨ j = o + 1 ∨ j = o + 2 ∨ j = o + 3 ∨ j = o + 4 ∨ j = o + 5 ∨ j = o + 6 ∨ j = o + 7 := by omega
    rcases this with rfl | rfl | rfl | rfl | rfl | rfl | rfl | rfl
    · simp [bytes8]
    · rw [show B + (o + 1) - (B + o) = 1 from by omega]; simp [bytes8]
    · rw [show B + (o + 2) - (B + o) = 2 from by omega]; simp [bytes8]
    · rw [show B + (o + 3) - (B + o) = 3 from by omega]; simp [bytes8]
    · rw [show B + (o + 4) - (B + o) = 4 from by omega]; simp [bytes8]
    · rw [show B + (o + 5) - (B + o) = 5 from by omega]; simp [bytes8]
    · rw [show B + (o + 6) - (B + o) = 6 from by omega]; simp [bytes8]
    · rw [show B + (o + 7) - (B + o) = 7 from by omega]; simp [bytes8]
  · rw [if_neg h, if_neg (by omega), if_neg (by omega), if_neg (by omega), if_neg (by omega), if_neg (by omega), if_neg (by omega), if_neg (by omega), if_neg (by omega)]
theorem splice_poke (M : Nat → Int) (B o N : Nat) (l : List Int) (h : o + l.length ≤ N) : splice (rowOf (fun j => M (B + j)) N) o (l.map (Value.int .u8)) = rowOf (fun j => pokeM M (B + o) l (B + j)) N := by
  apply List.ext_getElem?
  intro i
  unfold splice rowOf
  by_cases hi : i < N
  · rw [List.getElem?_append]
    simp only [List.length_take, List.length_map, List.length_range]
    rw [Nat.min_eq_left (by omega)]
    by_cases h1 : i < o
    · rw [if_pos h1, List.getElem?_take, if_pos h1]
      simp only [List.getElem?_map, List.getElem?_range hi, Option.map_some]
      rw [pokeM_out _ _ _ _ (by omega)]
    · rw [if_neg h1, List.getElem?_append]
      simp only [List.length_map]
      by_cases h2 : i - o < l.length
      · rw [if_pos h2]
        simp only [List.getElem?_map, List.getElem?_range hi, Option.map_some]
        rw [List.getElem?_eq_getElem h2, show B + i = (B + o) + (i - o) from by omega, pokeM_in _ _ _ _ h2, List.getD_eq_getElem?_getD, List.getElem?_eq_getElem h2]
        rfl
      · rw [if_neg h2, List.getElem?_drop, show o + l.length + (i - o - l.length) = i from by omega]
        simp only [List.getElem?_map, List.getElem?_range hi, Option.map_some]
        rw [pokeM_out _ _ _ _ (by omega)]
  · rw [List.getElem?_eq_none (by simp; omega), List.getElem?_eq_none (by simp; omega)]
end Go.Proofs.YtologfdegdljeaaDoor
