/- The nodes of a directory, by their names: files.sorted. -/
import Derived.Test.YtkcjafnaephjiaaGreatDoorPart07
import Derived.Test.YtkcjafnaephjiaaGreatDoorPart09
set_option linter.unusedVariables false
set_option linter.unusedSimpArgs false
namespace Go.Proofs.YtkcjafnaephjiaaGreatDoor
open Go.RowKit Go.Maps Go.Sort Go.Shelf Go.MapKept
set_option maxRecDepth 100000

def R0U : Value → Option (DataW Unit × List MemPlace) := fun _ => some (.nil, [])
def D0E {P : Program} {k : TypeId} {α : Type} (E : KeyEnc P k α) (kv : List (α × Value)) : DataW Unit := .map ((kv.map fun p => (E.kl p.1, .nil)).foldr DataW.insert [])
theorem Mp.ownsE {P : Program} {k : TypeId} {α : Type} {E : KeyEnc P k α} {w : World} {b : Nat} {kv : List (α × Value)} (h : Mp E w b kv) (hl : kv.length ≤ maxLen) : w.ownsMap P k R0U b kv.length (D0E E kv) := by
  obtain ⟨es, clock, h1, h2, h3, h4⟩ := h
  have hlen : es.size = kv.length := by have := congrArg List.length h3; simpa using this
  have hone : ∀ x ∈ es.toList, ∀ a, x.key = E.kf a → E.ok a → Go.WideElems.rd P k R0U x = some (E.kl a, .nil) := by
    rintro ⟨q, v, c⟩ _ a rfl ha
    simp [Go.WideElems.rd, E.read a ha, R0U]
  have hent : ∀ x ∈ es.toList, ∃ p ∈ kv, x.key = E.kf p.1 := by
    intro x hx
    have hm : (x.key, x.val) ∈ kv.map (fun p => (E.kf p.1, p.2)) := by rw [← h3]; exact List.mem_map.2 ⟨x, hx, rfl⟩
    obtain ⟨p, hp, e⟩ := List.mem_map.1 hm
    injection e with e1 _
    exact ⟨p, hp, e1.symm⟩
  refine ⟨es, clock, h1, ⟨by omega, h2, fun x hx => ?_⟩, by omega, ?_⟩
  · obtain ⟨p, hp, e⟩ := hent x hx
    exact ⟨_, hone x hx p.1 e (h4 p hp)⟩
  · unfold D0E
    congr 2
    apply List.ext_getElem?
    intro i
    have h3i := congrArg (·[i]?) h3
    simp only [List.getElem?_map] at h3i ⊢
    cases he : es.toList[i]? with
    | none =>
      rw [he] at h3i
      cases hk : kv[i]? with
      | none => rfl
      | some p => rw [hk] at h3i; cases h3i
    | some x =>
      rw [he] at h3i
      cases hk : kv[i]? with
      | none => rw [hk] at h3i; cases h3i
      | some p =>
        rw [hk] at h3i
        simp only [Option.map_some, Option.some.injEq, Prod.mk.injEq] at h3i
        have := hone x (List.mem_of_getElem? he) p.1 h3i.1 (h4 p (List.mem_of_getElem? hk))
        simp only [Option.map_some, Go.WideElems.rg, this, Option.getD_some]
theorem D0S_keys (kv : List (ByteArray × Value)) : (strKeys (D0E keyS kv)).Perm (kv.map fun p => p.1.data.toList) := by
  unfold D0E strKeys
  have := (Go.WideShapes.sorted_perm (kv.map fun p => (Lit.string p.1.data.toList, (.nil : DataW Unit)))).map (fun p => Go.strOf p.1)
  refine this.trans ?_
  rw [List.map_map]
  exact List.Perm.refl _
theorem D0S_size (kv : List (ByteArray × Value)) : Maps.size (D0E keyS kv) = kv.length := by
  unfold D0E
  rw [size_eq, length_sorted, List.length_map]
theorem sortsS (m : Nat) : AnyZ.SortsIn Tryz.prog Tryz.sortedN_ren Fence.wide m :=
  ⟨fun blk off cap ss W hH hblk hsz => callsIn_wide.2 (AnyM.slices_Sort_string Tryz.sortN blk off cap ss W hH hblk hsz),
   fun p cap W => callsIn_wide.2 (AnyM.slices_Sort_string_none Tryz.sortN p cap W)⟩
theorem keysS_any (mb : Option Nat) (w : World) : Calls Tryz.prog 98 #[.map mb] w fun e w' => e = .returned (.func (.func 121) #[] #[.pointer (some ⟨w.heap.size, 0, none⟩)]) ∧ w' = w.alloc (.cells #[.map mb] 171) :=
  (callsIn_wide (n := 5)).1 (AnyZ.keys_in Tryz.keysN Fence.wide 5 trivial rfl mb w)
/-- slices.Sorted of a directory's names. -/
theorem sortedS_any (q b : Nat) (kv : List (ByteArray × Value)) (w : World) (hs : Mp keyS w b kv) (hl : kv.length ≤ 1000000) (hq : q < w.heap.size) (hc : w.cell? ⟨q, 0, none⟩ = some (.map (some b))) :
    Calls Tryz.prog 97 #[.func (.func 121) #[] #[.pointer (some ⟨q, 0, none⟩)]] w fun e w' => ∃ (v : Value) (ss : List (List UInt8)), e = .returned v ∧ ss.Perm (kv.map fun p => p.1.data.toList) ∧
      w'.ownsRow w.heap.size 9 1 v ss.length (ss.map strV) ∧ Bel w w' := by
  have hmax : kv.length ≤ maxLen := by unfold maxLen; omega
  have hown := hs.ownsE hmax
  have hseq : SeqGives Fence.wide 2 Tryz.prog 121 #[.pointer (some ⟨q, 0, none⟩)] encStr (fun ss => ss.Perm (strKeys (D0E keyS kv))) (Maps.size (D0E keyS kv)) w :=
    AnyZ.keys_gives (ρ := Tryz.keysN_ren) { Tryz.keysN with } Fence.wide _ trivial rfl (by omega) q b kv.length (D0E keyS kv) _ hq hc hown
  have cS := AnyZ.sorted_in Tryz.sortedN Fence.wide 5 trivial trivial trivial trivial rfl (by omega) (sortsS _) (enters_of Tryz.func120 (by kernel_rfl) rfl) 121 #[.pointer (some ⟨q, 0, none⟩)] trivial (enters_of Tryz.func121 (by kernel_rfl) rfl) _ _ (by rw [D0S_size]; exact hmax) (by rw [D0S_size]; omega) _ hseq
  refine ((callsIn_wide (n := 5)).1 cS).mono ?_
  rintro e w' ⟨v, ss, rfl, hS, hrow, _, hb⟩
  refine ⟨v, ss.mergeSort (fun x y => decide (x ≤ y)), rfl, (List.mergeSort_perm ss _).trans (hS.trans (D0S_keys kv)), ?_, hb⟩
  rw [List.length_mergeSort]
  exact hrow
theorem sortedS_none (q : Nat) (w : World) (hq : q < w.heap.size) (hc : w.cell? ⟨q, 0, none⟩ = some (.map none)) :
    Calls Tryz.prog 97 #[.func (.func 121) #[] #[.pointer (some ⟨q, 0, none⟩)]] w fun e w' => e = .returned (.slice none 0 0) ∧ Bel w w' := by
  have hseq : SeqGives Fence.wide 2 Tryz.prog 121 #[.pointer (some ⟨q, 0, none⟩)] encStr (fun ss : List (List UInt8) => ss = []) 0 w :=
    AnyZ.keys_gives_nil (ρ := Tryz.keysN_ren) { Tryz.keysN with } Fence.wide _ trivial rfl q _ hq hc
  have cS := AnyZ.sorted_in Tryz.sortedN Fence.wide 5 trivial trivial trivial trivial rfl (by omega) (sortsS _) (enters_of Tryz.func120 (by kernel_rfl) rfl) 121 #[.pointer (some ⟨q, 0, none⟩)] trivial (enters_of Tryz.func121 (by kernel_rfl) rfl) _ 0 (Nat.zero_le _) (by omega) _ hseq
  refine ((callsIn_wide (n := 5)).1 cS).mono ?_
  rintro e w' ⟨v, ss, rfl, rfl, _, hnil, hb⟩
  exact ⟨by rw [hnil.2 rfl], hb⟩

/-- The numbers of a directory's nodes. -/
def kidF (d : Nat) : Nat → List Nd → List Nat
  | _, [] => []
  | i, n :: N => if n.par = d then (i + 1) :: kidF d (i + 1) N else kidF d (i + 1) N
def kidN (N : List Nd) (d : Nat) : List Nat := kidF d 0 N
theorem kidF_mem (d : Nat) : ∀ (i : Nat) (N : List Nd) (k : Nat), k ∈ kidF d i N ↔ ∃ (j : Nat) (n : Nd), N[j]? = some n ∧ n.par = d ∧ k = i + j + 1
  | i, [], k => by simp [kidF]
  | i, m :: N, k => by
    have ih := kidF_mem d (i + 1) N k
    unfold kidF
    have hs : (∃ (j : Nat) (n : Nd), (m :: N)[j]? = some n ∧ n.par = d ∧ k = i + j + 1) ↔ (m.par = d ∧ k = i + 1) ∨ ∃ (j : Nat) (n : Nd), N[j]? = some n ∧ n.par = d ∧ k = i + 1 + j + 1 := by
      constructor
      · rintro ⟨j, n, h1, h2, h3⟩
        cases j with
        | zero => simp at h1; subst h1; exact .inl ⟨h2, by omega⟩
        | succ j => exact .inr ⟨j, n, h1, h2, by omega⟩
      · rintro (⟨h1, h2⟩ | ⟨j, n, h1, h2, h3⟩)
        · exact ⟨0, m, rfl, h1, by omega⟩
        · exact ⟨j + 1, n, h1, h2, by omega⟩
    rw [hs]
    by_cases hp : m.par = d
    · rw [if_pos hp, List.mem_cons, ih]
      constructor
      · rintro (h | h)
        · exact .inl ⟨hp, h⟩
        · exact .inr h
      · rintro (h | h)
        · exact .inl h.2
        · exact .inr h
    · rw [if_neg hp, ih]
      constructor
      · exact .inr
      · rintro (h | h)
        · exact absurd h.1 hp
        · exact h
theorem kidN_mem {N : List Nd} {d k : Nat} : k ∈ kidN N d ↔ ∃ (j : Nat) (n : Nd), N[j]? = some n ∧ n.par = d ∧ k = j + 1 := by
  unfold kidN
  rw [kidF_mem]
  simp
theorem kidsF_eq (A : Adr) (d : Nat) : ∀ (i : Nat) (T : List Pn), kidsF A d i T = (kidF d i (nds T)).map fun k => ((((T[k - 1 - i]?).map Pn.name).getD ⟨#[]⟩), A.ptr k)
  | _, [] => rfl
  | i, n :: T => by
    have ih := kidsF_eq A d (i + 1) T
    have hm : (kidF d (i + 1) (nds T)).map (fun k => (((((n :: T)[k - 1 - i]?).map Pn.name).getD ⟨#[]⟩), A.ptr k)) = (kidF d (i + 1) (nds T)).map fun k => ((((T[k - 1 - (i + 1)]?).map Pn.name).getD ⟨#[]⟩), A.ptr k) := by
      apply List.map_congr_left
      intro k hk
      obtain ⟨j, _, _, _, rfl⟩ := (kidF_mem d (i + 1) _ k).1 hk
      rw [show i + 1 + j + 1 - 1 - i = j + 1 from by omega, show i + 1 + j + 1 - 1 - (i + 1) = j from by omega, List.getElem?_cons_succ]
    unfold kidsF
    simp only [nds, List.map_cons, kidF]
    by_cases hp : n.nd.par = d
    · rw [if_pos hp, if_pos hp, List.map_cons]
      have := ih.trans hm.symm
      simp only [nds] at this
      rw [this, show i + 1 - 1 - i = 0 from by omega]
      rfl
    · rw [if_neg hp, if_neg hp]
      have := ih.trans hm.symm
      simp only [nds] at this
      exact this
theorem kids_eq (A : Adr) (d : Nat) (T : List Pn) : kids A d T = (kidN (nds T) d).map fun k => ((((T[k - 1]?).map Pn.name).getD ⟨#[]⟩), A.ptr k) := kidsF_eq A d 0 T
theorem kids_child {w : World} {A : Adr} {T : List Pn} {d : Nat} {n : Pn} (ht : PTree w A T) (hd : T[d]? = some n) (hdir : n.dir = true) (k : Nat) (hk : k ∈ kidN (nds T) (d + 1)) : child (nds T) (d + 1) (((T[k - 1]?).map Pn.name).getD ⟨#[]⟩) = k := by
  have hm : ((((T[k - 1]?).map Pn.name).getD ⟨#[]⟩), A.ptr k) ∈ kids A (d + 1) T := by rw [kids_eq]; exact List.mem_map.2 ⟨k, hk, rfl⟩
  have hg := getKv_some (ht.kids d n hd hdir).nodup hm
  have h2 := kids_get A (d + 1) T (((T[k - 1]?).map Pn.name).getD ⟨#[]⟩)
  rw [hg, Option.getD_some] at h2
  obtain ⟨j, x, hj, _, rfl⟩ := kidN_mem.1 hk
  have hle := child_le (nds T) (d + 1) (((T[j + 1 - 1]?).map Pn.name).getD ⟨#[]⟩)
  generalize child (nds T) (d + 1) (((T[j + 1 - 1]?).map Pn.name).getD ⟨#[]⟩) = c at *
  rw [nds_len] at hle
  have hjl : j < T.length := by have := (List.getElem?_eq_some_iff.1 hj).1; rwa [nds_len] at this
  cases c with
  | zero => simp [Adr.ptr, Adr.at_] at h2
  | succ c =>
    simp [Adr.ptr, Adr.at_] at h2
    have := ht.inj j c hjl (by omega) h2
    omega
theorem kidF_len (d : Nat) : ∀ (i : Nat) (N : List Nd), (kidF d i N).length ≤ N.length
  | _, [] => by simp [kidF]
  | i, n :: N => by
    have := kidF_len d (i + 1) N
    unfold kidF
    split <;> simp <;> omega
theorem ptrInfo : (Tryz.prog.info? 170).map (fun i => (i.size, i.bytes, (i.zero.map (·.cells.size)))) = some (1, 8, some 1) := by kernel_rfl
/-- files.sorted of a directory. -/
def SortRes (A : Adr) (N : List Nd) (d base : Nat) (e : Ending) (w' : World) : Prop := ∃ (v : Value) (E : List Nat), e = .returned v ∧ E.Perm (kidN N d) ∧ w'.ownsRow base 170 1 v E.length (E.map A.ptr)
set_option maxHeartbeats 4000000 in
theorem sortedN_any (A : Adr) (T : List Pn) (d : Nat) (n : Pn) (w : World) (ht : PTree w A T) (hl : T.length ≤ 8000) (hd : T[d]? = some n) (hdir : n.dir = true) (hnm : ∀ x ∈ nds T, x.name.size ≤ 1000) :
    Calls Tryz.prog 80 #[.map (some (A.mb (d + 1)))] w fun e w' => SortRes A (nds T) (d + 1) w.heap.size e w' ∧ Bel w w' := by
  have hmp := ht.kids d n hd hdir
  have hkl := kidF_len (d + 1) 0 (nds T)
  rw [nds_len] at hkl
  have hkvl : (kids A (d + 1) T).length ≤ T.length := by rw [kids_eq, List.length_map]; exact hkl
  have hlk := fun W (hW : Bel w W) (s : List UInt8) (hs : s.length ≤ 1000) => (ht.bel hW).lookup d n hd hdir ⟨s.toArray⟩ (by show s.toArray.size ≤ maxLen; simp; unfold maxLen; omega)
  have HLK := Lib.hid hlk
  have HT := Lib.hid ht
  have HD := Lib.hid (And.intro hd hdir)
  have HMP := Lib.hid hmp
  have HNM := Lib.hid hnm
  clear ht hd hdir hmp hlk hnm
  go_enter Tryz.func80, Tryz.ntmps80
  go_wp2_with (first
    | (go_at_call 98; refine (keysS_any _ _).mono ?_; rintro e w1 ⟨rfl, rfl⟩)
    | (go_at_call 97; refine (sortedS_any w.heap.size (A.mb (d + 1)) (kids A (d + 1) T) _ (HMP.out.alloc _) (by omega) (by simp) (by simp)).mono ?_; rintro e w2 ⟨v, ss, rfl, hss, hrow, k2⟩
       obtain ⟨ps, cap, rfl, hcap, hcm, hps⟩ := row_slice hrow
       have HSS := Lib.hid hss
       have HROW := Lib.hid hrow
       have HK2 : Hid (Bel w w2) := Lib.hid ((Bel.start w _).tr k2)
       have hsl : ss.length ≤ 8000 := by have := hss.length_eq; simp at this; omega
       have HPS := Lib.hid hps
       clear hss hrow k2 hps))
  obtain ⟨el, hel⟩ : ∃ el : List UInt8 → Value, el = fun x => A.ptr (child (nds T) (d + 1) ⟨x.toArray⟩) := ⟨_, rfl⟩
  have HEL := Lib.hid hel
  clear hel
  go_loopw [3, 10] (fun l i wr => ∃ k : Nat, k ≤ ss.length ∧ i = .int .i64 k ∧ wr.ownsRow w2.heap.size 170 1 l k ((ss.take k).map el) ∧ Bel w2 wr) (fun _ i _ => ss.length - (intOf i).toNat)
  case atStart => exact ⟨0, Nat.zero_le _, rfl, World.ownsRow_nil _ _ _ _, Bel.refl _⟩
  case round =>
    obtain ⟨k, hk, rfl, hrow, hbr⟩ := hrel
    have HR := Lib.hid hrow
    have HB := Lib.hid hbr
    clear hrow hbr
    by_cases hlt : k < ss.length
    · obtain ⟨g, rfl, _, _, hcell, _⟩ := HPS.out.resolve_left (by omega)
      have hx := List.getElem?_eq_getElem hlt
      have hxm := List.getElem_mem hlt
      have htk : (ss.take (k + 1)).map el = (ss.take k).map el ++ [el ss[k]] := by rw [List.take_succ_eq_append_getElem hlt, List.map_append]; rfl
      have hc0 : wr.cell? ⟨g, k, none⟩ = some (.string ⟨ss[k].toArray⟩) := cell_bel HB.out (by rw [hcell k (by simpa using hlt), List.getElem?_map, hx]; rfl)
      have hsz : ss[k].length ≤ 1000 := by
        have hm := HSS.out.mem_iff.1 hxm
        obtain ⟨q, hq, he⟩ := List.mem_map.1 hm
        rw [kids_eq] at hq
        obtain ⟨j, hj, rfl⟩ := List.mem_map.1 hq
        obtain ⟨i, x, hi, _, rfl⟩ := kidN_mem.1 hj
        have hTi : ∃ y, T[i]? = some y ∧ x = y.nd := by
          unfold nds at hi
          rw [List.getElem?_map] at hi
          cases hy : T[i]? with
          | none => rw [hy] at hi; cases hi
          | some y => rw [hy] at hi; simp at hi; exact ⟨y, rfl, hi.symm⟩
        obtain ⟨y, hy, rfl⟩ := hTi
        have h1 := HNM.out y.nd (List.mem_of_getElem? hi)
        rw [← he]
        simp only [Nat.add_sub_cancel, hy, Option.map_some, Option.getD_some]
        have h2 : y.name.data.toList.length = y.name.size := by simp
        have h3 : y.nd.name.size = y.name.size := rfl
        omega
      have hlk := HLK.out wr (HK2.out.tr HB.out) ss[k] hsz
      have helk : A.ptr (child (nds T) (d + 1) ⟨ss[k].toArray⟩) = el ss[k] := by rw [HEL.out]
      rw [helk] at hlk
      have HONE : Hid ((el ss[k]).oneCell' = true) := Lib.hid (by rw [← helk]; rfl)
      have HCELLS : Hid ((el ss[k]).cells = #[el ss[k]]) := Lib.hid (by rw [← helk]; rfl)
      have HTK := Lib.hid htk
      generalize el ss[k] = ev at *
      generalize (⟨ss[k].toArray⟩ : ByteArray) = sk at *
      clear hx hxm htk helk hcell hsz
      go_wp2_with (first
        | (refine wpList_buildSlice_one rfl 224 170 (.tmp 17) rfl [ev] (by exact HCELLS.out) Tryz.underlying224 ptrInfo (by show 0 < 1; omega) (by show 1 ≤ 2 ^ 24; omega) ?_; intro w5 B5 K5)
        | (refine wpList_append_one rfl (.tmp 14) (.tmp 18) 224 rfl Tryz.underlying224 ptrInfo (by omega) rfl (row_bel HR.out K5) _ [ev] 170 rfl B5.out rfl (by intro v hv; simp at hv; rcases hv with rfl; exact HONE.out) (by unfold maxLen; omega) (by omega) (Nat.le_trans HB.out.size K5.size) ?_; intro v6 w6 R6 K6))
      have R7 : Hid (w6.ownsRow w2.heap.size 170 1 v6 (k + 1) ((ss.take (k + 1)).map el)) := Lib.hid (by rw [HTK.out]; exact R6)
      have K7 : Hid (Bel w2 w6) := Lib.hid (Below.trans (HB.out.tr K5) (K6.below _ (Nat.le_trans HB.out.size K5.size) fun i hi => hi))
      clear R6 K6 K5 B5
      go_roundw
      case rel => exact ⟨k + 1, by omega, by go_num, R7.out, K7.out⟩
      case measure => simp [intOf] <;> omega
    · obtain rfl : k = ss.length := by omega
      go_wp2_with fail
      go_ret
      refine ⟨⟨_, ss.map fun x => child (nds T) (d + 1) ⟨x.toArray⟩, rfl, ?_, ?_⟩, HK2.out.tr HB.out⟩
      · have hp := HSS.out.map fun x : List UInt8 => child (nds T) (d + 1) ⟨x.toArray⟩
        refine hp.trans (List.Perm.of_eq ?_)
        rw [kids_eq, List.map_map, List.map_map]
        refine (List.map_congr_left fun k hk => ?_).trans (List.map_id _)
        exact kids_child HT.out HD.out.1 HD.out.2 k hk
      · have := HR.out
        rw [List.take_length] at this
        rw [List.length_map, List.map_map]
        have e : (A.ptr ∘ fun x : List UInt8 => child (nds T) (d + 1) ⟨x.toArray⟩) = el := by rw [HEL.out]; rfl
        rw [e]
        exact ownsRow_base_a this HK2.out.size
end Go.Proofs.YtkcjafnaephjiaaGreatDoor
