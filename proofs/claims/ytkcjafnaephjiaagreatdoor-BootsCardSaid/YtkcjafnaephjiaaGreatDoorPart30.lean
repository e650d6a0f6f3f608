/- maps.Copy at address spaces: the pages of the second are laid over the first's. -/
import Derived.Maps.RangeWalk
import Derived.Deep.DeepCutAuto
import Derived.Test.YtkcjafnaephjiaaGreatDoorPart06
import Derived.Test.YtkcjafnaephjiaaGreatDoorPart18
set_option linter.unusedVariables false
set_option linter.unusedSimpArgs false
namespace Go.Proofs.YtkcjafnaephjiaaGreatDoor
open Go.RowKit Go.Maps Go.WideShapes
set_option maxRecDepth 100000

/-- An element is read as itself. -/
def RV : Value → Option (DataW Value × List MemPlace) := fun v => some (.held v, [])
def entV (kv : List (Int × Value)) : List (Lit × DataW Value) := kv.map fun p => (Lit.int .i64 p.1, .held p.2)
def DV (kv : List (Int × Value)) : DataW Value := .map ((entV kv).foldr DataW.insert [])
theorem Mp.fitV {w : World} {b : Nat} {kv : List (Int × Value)} (h : Mp keyI w b kv) (hl : kv.length ≤ maxLen) : ∃ es clock, w.heap[b]? = some (.map es clock) ∧ Go.WideElems.Fit Tryz.prog 3 RV es clock ∧ es.size = kv.length ∧ es.toList.map (Go.WideElems.rg Tryz.prog 3 RV) = entV kv := by
  obtain ⟨es, clock, h1, h2, h3, h4⟩ := h
  have hlen : es.size = kv.length := by have := congrArg List.length h3; simpa using this
  have hrd : ∀ a v, keyI.ok a → ∀ c, Go.WideElems.rd Tryz.prog 3 RV ⟨.int .i64 a, v, c⟩ = some (Lit.int .i64 a, .held v) := by
    intro a v ha c
    have : keyOf Tryz.prog 3 (.int .i64 a) = some (.int .i64 a) := keyI.read a ha
    simp [Go.WideElems.rd, this, RV]
  have hent : ∀ x ∈ es.toList, ∃ p ∈ kv, x.key = .int .i64 p.1 := by
    intro x hx
    have hm : (x.key, x.val) ∈ kv.map (fun p => (keyI.kf p.1, p.2)) := by rw [← h3]; exact List.mem_map.2 ⟨x, hx, rfl⟩
    obtain ⟨p, hp, e⟩ := List.mem_map.1 hm
    injection e with e1 _
    exact ⟨p, hp, e1.symm⟩
  have hone : ∀ x ∈ es.toList, ∀ a, x.key = .int .i64 a → keyI.ok a → Go.WideElems.rd Tryz.prog 3 RV x = some (Lit.int .i64 a, .held x.val) := by
    rintro ⟨k, v, c⟩ _ a rfl ha
    exact hrd a v ha c
  refine ⟨es, clock, h1, ⟨by omega, h2, fun x hx => ?_⟩, hlen, ?_⟩
  · obtain ⟨p, hp, e⟩ := hent x hx
    exact ⟨_, hone x hx p.1 e (h4 p hp)⟩
  · unfold entV
    apply List.ext_getElem?
    intro i
    have h3i := congrArg (·[i]?) h3
    simp only [List.getElem?_map] at h3i ⊢
    cases he : es.toList[i]? with
    | none =>
      rw [he] at h3i
      cases hk : kv[i]? with
      | none => rfl
      | some p => rw [hk] at h3i; cases h3i
    | some x =>
      rw [he] at h3i
      cases hk : kv[i]? with
      | none => rw [hk] at h3i; cases h3i
      | some p =>
        rw [hk] at h3i
        simp only [Option.map_some, Option.some.injEq, Prod.mk.injEq] at h3i
        have := hone x (List.mem_of_getElem? he) p.1 h3i.1 (h4 p (List.mem_of_getElem? hk))
        simp only [Option.map_some, Go.WideElems.rg, this, Option.getD_some, h3i.2]
theorem Mp.ownsV {w : World} {b : Nat} {kv : List (Int × Value)} (h : Mp keyI w b kv) (hl : kv.length ≤ maxLen) : w.ownsMap Tryz.prog 3 RV b kv.length (DV kv) := by
  obtain ⟨es, clock, h1, h2, h3, h4⟩ := h.fitV hl
  exact ⟨es, clock, h1, h2, by omega, by rw [h4]; rfl⟩
theorem DV_at {w : World} {b : Nat} {kv : List (Int × Value)} (h : Mp keyI w b kv) (hl : kv.length ≤ maxLen) {x : Int} {c : Value} (hx : (Lit.int .i64 x).wf = true) (hat : ∀ zd, (DV kv).atKey (.int .i64 x) zd = .held c) : getKv kv x = some c := by
  obtain ⟨es, clock, h1, h2, h3, h4⟩ := h.fitV hl
  have hr := Go.Maps.fit_rising keyedI h2
  rw [h4] at hr
  obtain ⟨k1, k2⟩ := atKey_sorted (entV kv) hr (.int .i64 x) trivial
  by_cases hm : ∃ p ∈ entV kv, p.1 = .int .i64 x
  · obtain ⟨p, hp, e⟩ := hm
    have := (k2 p hp e .nil).symm.trans (hat .nil)
    obtain ⟨q, hq, rfl⟩ := List.mem_map.1 hp
    simp only at e this
    injection e with _ e
    injection this with this
    subst e
    rw [← this]
    exact getKv_some h.nodup hq
  · have hn : ∀ p ∈ entV kv, p.1 ≠ .int .i64 x := fun p hp e => hm ⟨p, hp, e⟩
    have := (k1 hn .nil).symm.trans (hat .nil)
    cases this
theorem DV_has {kv : List (Int × Value)} {x : Int} (hx : (getKv kv x).isSome = true) : Maps.has (DV kv) (.int .i64 x) = true := by
  obtain ⟨p, hp, e⟩ := List.mem_map.1 (getKv_isSome.1 hx)
  refine List.any_eq_true.2 ⟨(.int .i64 p.1, .held p.2), mem_sorted.2 (List.mem_map.2 ⟨p, hp, rfl⟩), ?_⟩
  rw [e]
  exact WideAt.sameKey_self (a := .int .i64 x) trivial
theorem sameKey_int (a b : Int) : (Lit.int .i64 a).sameKey (.int .i64 b) = decide (a = b) := by
  by_cases h : a = b
  · subst h
    rw [WideAt.sameKey_self (a := .int .i64 a) trivial]
    simp
  · have : (Lit.int .i64 a).sameKey (.int .i64 b) = false := by
      cases hs : (Lit.int .i64 a).sameKey (.int .i64 b)
      · rfl
      · have := WideAt.sameKey_eq hs
        injection this with _ this
        exact absurd this h
    rw [this]
    simp [h]
/-- The pages of s laid over m. -/
def over (m s : Pages) : Pages := fun n => if (s n).isSome = true then s n else m n
def overL (m s : Pages) (left : Lit → Bool) : Pages := fun n => if (s n).isSome = true ∧ left (.int .i64 n) = false then s n else m n
theorem invI {key : Value} {kl : Lit} (h : keyOf Tryz.prog 3 key = some kl) : ∃ x, key = .int .i64 x := by
  obtain ⟨x, h, _⟩ := Maps.keyOf_int_inv Tryz.underlying3 h
  exact ⟨x, h⟩
set_option maxHeartbeats 4000000 in
theorem copy_any (db sb : Nat) (m s : Pages) (w : World) (hd : Sp w db m) (hs : Sp w sb s) (hne : db ≠ sb) (hb : ∀ n, 256 ≤ n → s n = none) (hwf : ∀ n p, s n = some p → p.bytes.length = 256) :
    Calls Tryz.prog 64 #[.map (some db), .map (some sb)] w fun e w' => e = .returned (.tuple #[]) ∧ Sp w' db (over m s) ∧ Keep (fun q => q = db) w w' := by
  obtain ⟨kv, hmp, hget, hpos⟩ := hs
  have hl : kv.length ≤ maxLen := by
    have h1 := (Sp.keys hb hmp hget hpos).length_eq
    have h2 := pageNums_length s
    simp only [List.length_map] at h1
    unfold maxLen
    omega
  have hown := hmp.ownsV hl
  have hdl := hd.lt
  have hsl := hmp.lt
  have HG := Lib.hid hget
  have HM := Lib.hid hmp
  have HP := Lib.hid hpos
  have HB := Lib.hid hb
  have HW := Lib.hid hwf
  have HL := Lib.hid hl
  clear hget hmp hpos hb hwf hl
  have hz : ∀ w, (zeroValue 192).run Tryz.prog w = .ok (.agg Pg.zero.cells.toArray) w := zeroPage
  obtain ⟨zs, hzs⟩ : ∃ zs : List Value, zs = Pg.zero.cells := ⟨_, rfl⟩
  have hzl : zs.length = 257 := by rw [hzs]; simp [Pg.cells, Pg.zero]
  rw [← hzs] at hz
  have HZL := Lib.hid hzl
  clear hzs hzl
  go_enter Tryz.func64, Tryz.ntmps64
  go_wp2_with (first
    | (at_range; refine wpList_range_own _ rfl _ 132 rfl 3 192 keyedI Tryz.underlying132 _ sb kv.length _ rfl hown ?_; intro w0 hrg0 hg0 hs0)
    | go_in)
  go_frame
  go_loopw [4] (fun _ wr => ∃ (left : Lit → Bool) (cnt : Nat), wr.ranges Tryz.prog 3 RV sb w.heap.size kv.length (DV kv) left cnt ∧ Sp wr db (overL m s left) ∧ Keep (fun q => q = db) w wr)
    (fun _ wr => wr.rangeLeft sb w.heap.size)
  case atStart =>
    refine ⟨_, _, hrg0, ?_, ⟨hg0.os, hg0.tape, hg0.output, hg0.size, fun i hi _ => hg0.block i hi (by simp)⟩⟩
    have e : overL m s (Maps.has (DV kv)) = m := by
      funext n
      refine if_neg ?_
      rintro ⟨h1, h2⟩
      rw [DV_has (by rw [HG.out n, Option.isSome_map]; exact h1)] at h2
      cases h2
    rw [e]
    exact hd.of_block (hg0.block db hdl (by simp))
  case round =>
    obtain ⟨left, cnt, hrg, hsp, hkr⟩ := hrel
    go_wp2_with (first
      | (at_next; refine wpList_next_ranges _ rfl _ rfl 3 keyedI RV (Value.int .i64) id (fun key kl h => invI h) (fun v y h => ⟨v, rfl⟩) sb w.heap.size kv.length _ _ _ rfl hrg ?_ ?_)
      | go_in)
    · intro _ hl0
      go_wp2
      go_end0
      have e : overL m s left = over m s := by
        funext n
        unfold overL over
        simp [hl0]
      exact ⟨rfl, by rw [← e]; exact hsp, hkr⟩
    · intro x c kl y yp w1 cnt1 hkey hlx hR hat hrg1 hlt hg1 hs1 hen
      obtain ⟨x', ex, rfl, hwx⟩ := Maps.keyOf_int_inv Tryz.underlying3 hkey
      cases ex
      have hy : y = .held c := by
        have := congrArg (Option.map Prod.fst) hR
        simpa [RV] using this.symm
      subst hy
      have hgk := DV_at HM.out HL.out hwx hat
      obtain ⟨n, rfl⟩ : ∃ n : Nat, x = n := by
        have hm := getKv_isSome.1 (by rw [hgk]; rfl : (getKv kv x).isSome = true)
        obtain ⟨q, hq, rfl⟩ := List.mem_map.1 hm
        exact Int.eq_ofNat_of_zero_le (HP.out q hq)
      rw [HG.out n] at hgk
      obtain ⟨p, hp, rfl⟩ := Option.map_eq_some_iff.1 hgk
      have hpw := HW.out n p hp
      have hn256 : n < 256 := by
        refine Classical.byContradiction fun hc => ?_
        rw [HB.out n (by omega)] at hp
        cases hp
      have HX := Lib.hid (And.intro hlx hp)
      have HRG0 := Lib.hid hrg
      have HRG := Lib.hid hrg1
      have HLT := Lib.hid hlt
      have kr1 : Keep (fun q => q = db) w w1 := hkr.tr_new (S := fun q => q = db) (S' := fun q => q = w.heap.size) ⟨hg1.os, hg1.tape, hg1.output, hg1.size, fun i hi hn => hg1.block i hi (by simpa using fun e => hn e)⟩ (fun i hi => .inr (by omega))
      have sp1 : Sp w1 db (overL m s left) := hsp.of_block (hg1.block db hsp.lt (by simp; omega))
      obtain ⟨cs, hcs⟩ : ∃ cs, p.cells = cs := ⟨_, rfl⟩
      have hpv : p.v = .agg cs.toArray := by rw [← hcs]; rfl
      have hcl : cs.length = 257 := by rw [← hcs]; simp [Pg.cells, hpw]
      have hone : ∀ v ∈ cs, v.oneCell' = true := by rw [← hcs]; exact Pg.cells_one _
      have HPV := Lib.hid hpv
      have HK1 := Lib.hid kr1
      have HS1 := Lib.hid sp1
      rw [hpv] at hen ⊢
      have HCL := Lib.hid hcl
      have HONE := Lib.hid hone
      clear hs1 hgk hp hpw hlx hR hat hrg1 hlt hg1 kr1 sp1 hcs hcl hone hpv hsp hkey hrg
      go_wp2_with (first
        | (refine wpList_store_blk rfl 192 (.tmp 5) (.tmp 12) rfl rfl w1.heap.size cs zs 192 (Blk.new w1 zs _) rfl rfl (by rw [HCL.out]; kernel_rfl) (HZL.out.trans HCL.out.symm) HONE.out ?_; intro w2 B2 K2; have k12 : Bel w1 w2 := (Below.heap_alloc' w1 _).trans (K2.below _ (by simp) (fun k hk => by omega)); have HK12 := Lib.hid k12; clear k12 K2)
        | (refine wpList_load_mid rfl 192 (.tmp 5) rfl w1.heap.size 0 rfl cs _ (by have := B2.out.range 0; simpa using this) Tryz.underlying192 rfl (by rw [HCL.out]; kernel_rfl) ?_
           obtain ⟨es, clock, hup, hsp4, hk4⟩ := (HS1.out.bel HK12.out).update n (by omega) p
           rw [HPV.out] at hup
           have HS4 := Lib.hid hsp4
           have HK4 := Lib.hid hk4
           clear hsp4 hk4
           generalize hw4 : Go.ChangeMaps.setBlock w2 db (.map es clock) = w4 at *
           clear hw4))
      have hrg4 := (HRG.out.kept (w' := w2) (row := none) ⟨HK12.out.os, HK12.out.tape, HK12.out.output, HK12.out.size, fun i hi _ => HK12.out.block i hi⟩ (by simp) (by simp)).kept (w' := w4) (row := some db) ⟨HK4.out.os, HK4.out.tape, HK4.out.output, HK4.out.size, fun i hi hn => HK4.out.block i hi (by simpa using hn)⟩ (by simpa using fun e => hne e.symm) (by simp; omega)
      have HRG4 := Lib.hid hrg4
      clear hrg4
      go_roundw
      case rel =>
        refine ⟨_, cnt1, HRG4.out, ?_, HK1.out.tr ((Keep.of_bel _ HK12.out).tr HK4.out)⟩
        have e : overL m s (fun z => left z && !z.sameKey (.int .i64 n)) = fun i => if i = n then some p else overL m s left i := by
          funext i
          unfold overL
          simp only [sameKey_int]
          by_cases hi : i = n
          · subst hi
            simp [HX.out.2]
          · rw [if_neg hi]
            have : decide ((i : Int) = n) = false := by simp; omega
            rw [this]
            simp
        rw [e]
        exact HS4.out
      case measure => rw [HRG4.out.left_eq, HRG0.out.left_eq]; exact HLT.out
end Go.Proofs.YtkcjafnaephjiaaGreatDoor
