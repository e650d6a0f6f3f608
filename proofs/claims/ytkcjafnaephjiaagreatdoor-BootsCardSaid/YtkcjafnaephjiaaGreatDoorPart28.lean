/- What exec leaves, in plain words. No program. -/
import Derived.Test.YtkcjafnaephjiaaGreatDoorPart27
import Derived.Maps.RangeWalk
import Derived.Deep.DeepCutAuto
import Derived.Test.YtkcjafnaephjiaaGreatDoorPart06
import Derived.Test.YtkcjafnaephjiaaGreatDoorPart17
import Derived.Laws.AppendOwn
import Derived.Deep.MidRow
import Derived.Test.YtkcjafnaephjiaaGreatDoorPart00
import Derived.Test.YtkcjafnaephjiaaGreatDoorPart02
namespace Go.Proofs.YtkcjafnaephjiaaGreatDoor
open Go.RowKit
set_option maxRecDepth 100000

theorem spaceTo_low (L : List Int) (N : Nat) (hN : ∀ i, i < N → SegFits L (segAt L i)) : ∀ k, k ≤ N → ∀ n, 254 ≤ n → spaceTo L k n = none
  | 0, _, _, _ => rfl
  | k + 1, hk, n, hn => by
    have ih := spaceTo_low L N hN k (by omega) n hn
    have hf := hN k (by omega)
    have hl : (segAt L k).last < 254 := by
      unfold Seg.last
      have h1 := hf.top
      have h2 := hf.mem
      have h3 := hf.addr
      omega
    show (if (segAt L k).first ≤ n ∧ n < (segAt L k).last + 1 then _ else spaceTo L k n) = none
    rw [if_neg (by omega), ih]
theorem spaceL_ok {B : List Int} (hb : ∀ x ∈ B, 0 ≤ x ∧ x ≤ 255) (h : loadE B = 0) : PagesOk (spaceL B) ∧ ∀ n, 254 ≤ n → spaceL B n = none := by
  obtain ⟨hh, hs, _, _⟩ := loadE_ok h
  have hhead : segN B ≤ 8 ∧ 64 + 56 * segN B ≤ B.length := by
    have := hh
    simp only [headerOk, Bool.and_eq_true, decide_eq_true_eq] at this
    exact ⟨this.1.2, this.2⟩
  have hfit : ∀ i, i < (segN B).toNat → SegFits B (segAt B i) := fun i hi => segFits B hb i (by omega) (List.all_eq_true.1 hs i (List.mem_range.2 hi))
  exact ⟨spaceTo_wf B hb (segN B).toNat hfit (segN B).toNat (Nat.le_refl _), spaceTo_low B (segN B).toNat hfit (segN B).toNat (Nat.le_refl _)⟩
theorem execE_load {L : List Nd} {path : List UInt8} {sok : Bool} {own used mf : Nat} (h : execE L path sok own used mf = 0) : loadE (execB L path) = 0 ∧ ∃ x ∈ L, execB L path = x.byt := by
  unfold execE at h
  unfold execB
  split at h
  · rename_i h1; exact absurd h h1
  · split at h
    · cases h
    · cases hx : L[(docWalk L path).2.2.1 - 1]? with
      | none => rw [hx] at h; cases h
      | some x =>
        rw [hx] at h
        simp only at h
        split at h
        · cases h
        · split at h
          · rename_i h3; exact absurd h h3
          · rename_i h3
            exact ⟨by simpa using h3, x, List.mem_of_getElem? hx, rfl⟩
theorem splice_app (a b : List Value) (o : Nat) (vs : List Value) (h : o + vs.length ≤ a.length) : splice (a ++ b) o vs = splice a o vs ++ b := by
  unfold splice
  rw [List.take_append_of_le_length (by omega), List.drop_append_of_le_length (by omega)]
  simp only [List.append_assoc]
theorem execC_app (a b : List Value) (v : Value) (E sp : Int) (ha : a.length = 31) : execC (a ++ b) 0 v E sp = execC a 0 v E sp ++ b := by
  unfold execC
  rw [show (a ++ b).set (0 + 22) v = a.set (0 + 22) v ++ b from List.set_append_left _ _ (by omega)]
  rw [show (a.set (0 + 22) v ++ b).set (0 + 5) (.int .u64 E) = (a.set (0 + 22) v).set (0 + 5) (.int .u64 E) ++ b from List.set_append_left _ _ (by simp; omega)]
  rw [splice_app _ _ _ _ (by simp; omega)]
  exact List.set_append_left _ _ (by rw [length_splice _ _ _ (by simp; omega)]; simp; omega)
theorem execC_len (a : List Value) (v : Value) (E sp : Int) (ha : a.length = 31) : (execC a 0 v E sp).length = 31 := by
  unfold execC
  rw [List.length_set, length_splice _ _ _ (by simp; omega)]
  simp [ha]
theorem execC_take (cells : List Value) (v : Value) (E sp : Int) (h : cells.take 31 = proc0) : (execC cells 0 v E sp).take 31 = execC proc0 0 v E sp := by
  have e : cells = proc0 ++ cells.drop 31 := by rw [← h, List.take_append_drop]
  rw [e, execC_app _ _ _ _ _ rfl, List.take_append_of_le_length (by rw [execC_len _ _ _ _ rfl]; exact Nat.le_refl _), List.take_of_length_le (by rw [execC_len _ _ _ _ rfl]; exact Nat.le_refl _)]
theorem DK.keepBlk {w w' : World} {kb g : Nat} {s : KV} {iv : Value} {L : List Nd} {cells : List Value} (h : DK w kb s iv L) (hB : Blk w g cells 83) (k : Keep (fun q => q = g) w w') : DK w' kb s iv L := by
  refine ⟨h.blk.keep k fun e => ?_, ?_, fun n hn => ⟨(h.byts n hn).1.keep k fun q hq e => ?_, (h.byts n hn).2⟩, h.few, h.one⟩
  · have e : kb = g := e
    subst e
    exact h.blk.ne hB (by decide) rfl
  · refine ⟨h.row.1, ?_⟩
    rcases h.row.2 with h1 | ⟨q, cap, cur, h1, h2, h3, h4⟩
    · exact .inl h1
    · refine .inr ⟨q, cap, cur, h1, h2, (k.block q (Array.getElem?_eq_some_iff.1 h3).1 fun e => ?_).trans h3, h4⟩
      have e : q = g := e
      subst e
      have h3' : Blk w q cur.toList 90 := h3
      exact h3'.ne hB (by decide) rfl
  · obtain ⟨_, cur, hb⟩ := (h.byts n hn).1.lt hq
    have e : q = g := e
    subst e
    exact hb.ne hB (by decide) rfl
end Go.Proofs.YtkcjafnaephjiaaGreatDoor

/- maps.Copy at address spaces: the pages of the second are laid over the first's. -/
namespace Go.Proofs.YtkcjafnaephjiaaGreatDoor
open Go.RowKit Go.Maps Go.WideShapes
set_option maxRecDepth 100000

/-- An element is read as itself. -/
def RV : Value → Option (DataW Value × List MemPlace) := fun v => some (.held v, [])
def entV (kv : List (Int × Value)) : List (Lit × DataW Value) := kv.map fun p => (Lit.int .i64 p.1, .held p.2)
def DV (kv : List (Int × Value)) : DataW Value := .map ((entV kv).foldr DataW.insert [])
theorem Mp.fitV {w : World} {b : Nat} {kv : List (Int × Value)} (h : Mp keyI w b kv) (hl : kv.length ≤ maxLen) : ∃ es clock, w.heap[b]? = some (.map es clock) ∧ Go.WideElems.Fit Tryz.prog 3 RV es clock ∧ es.size = kv.length ∧ es.toList.map (Go.WideElems.rg Tryz.prog 3 RV) = entV kv := by
  obtain ⟨es, clock, h1, h2, h3, h4⟩ := h
  have hlen : es.size = kv.length := by have := congrArg List.length h3; simpa using this
  have hrd : ∀ a v, keyI.ok a → ∀ c, Go.WideElems.rd Tryz.prog 3 RV ⟨.int .i64 a, v, c⟩ = some (Lit.int .i64 a, .held v) := by
    intro a v ha c
    have : keyOf Tryz.prog 3 (.int .i64 a) = some (.int .i64 a) := keyI.read a ha
    simp [Go.WideElems.rd, this, RV]
  have hent : ∀ x ∈ es.toList, ∃ p ∈ kv, x.key = .int .i64 p.1 := by
    intro x hx
    have hm : (x.key, x.val) ∈ kv.map (fun p => (keyI.kf p.1, p.2)) := by rw [← h3]; exact List.mem_map.2 ⟨x, hx, rfl⟩
    obtain ⟨p, hp, e⟩ := List.mem_map.1 hm
    injection e with e1 _
    exact ⟨p, hp, e1.symm⟩
  have hone : ∀ x ∈ es.toList, ∀ a, x.key = .int .i64 a → keyI.ok a → Go.WideElems.rd Tryz.prog 3 RV x = some (Lit.int .i64 a, .held x.val) := by
    rintro ⟨k, v, c⟩ _ a rfl ha
    exact hrd a v ha c
  refine ⟨es, clock, h1, ⟨by omega, h2, fun x hx => ?_⟩, hlen, ?_⟩
  · obtain ⟨p, hp, e⟩ := hent x hx
    exact ⟨_, hone x hx p.1 e (h4 p hp)⟩
  · unfold entV
    apply List.ext_getElem?
    intro i
    have h3i := congrArg (·[i]?) h3
    simp only [List.getElem?_map] at h3i ⊢
    cases he : es.toList[i]? with
    | none =>
      rw [he] at h3i
      cases hk : kv[i]? with
      | none => rfl
      | some p => rw [hk] at h3i; cases h3i
    | some x =>
      rw [he] at h3i
      cases hk : kv[i]? with
      | none => rw [hk] at h3i; cases h3i
      | some p =>
        rw [hk] at h3i
        simp only [Option.map_some, Option.some.injEq, Prod.mk.injEq] at h3i
        have := hone x (List.mem_of_getElem? he) p.1 h3i.1 (h4 p (List.mem_of_getElem? hk))
        simp only [Option.map_some, Go.WideElems.rg, this, Option.getD_some, h3i.2]
theorem Mp.ownsV {w : World} {b : Nat} {kv : List (Int × Value)} (h : Mp keyI w b kv) (hl : kv.length ≤ maxLen) : w.ownsMap Tryz.prog 3 RV b kv.length (DV kv) := by
  obtain ⟨es, clock, h1, h2, h3, h4⟩ := h.fitV hl
  exact ⟨es, clock, h1, h2, by omega, by rw [h4]; rfl⟩
theorem DV_at {w : World} {b : Nat} {kv : List (Int × Value)} (h : Mp keyI w b kv) (hl : kv.length ≤ maxLen) {x : Int} {c : Value} (hx : (Lit.int .i64 x).wf = true) (hat : ∀ zd, (DV kv).atKey (.int .i64 x) zd = .held c) : getKv kv x = some c := by
  obtain ⟨es, clock, h1, h2, h3, h4⟩ := h.fitV hl
  have hr := Go.Maps.fit_rising keyedI h2
  rw [h4] at hr
  obtain ⟨k1, k2⟩ := atKey_sorted (entV kv) hr (.int .i64 x) trivial
  by_cases hm : ∃ p ∈ entV kv, p.1 = .int .i64 x
  · obtain ⟨p, hp, e⟩ := hm
    have := (k2 p hp e .nil).symm.trans (hat .nil)
    obtain ⟨q, hq, rfl⟩ := List.mem_map.1 hp
    simp only at e this
    injection e with _ e
    injection this with this
    subst e
    rw [← this]
    exact getKv_some h.nodup hq
  · have hn : ∀ p ∈ entV kv, p.1 ≠ .int .i64 x := fun p hp e => hm ⟨p, hp, e⟩
    have := (k1 hn .nil).symm.trans (hat .nil)
    cases this
theorem DV_has {kv : List (Int × Value)} {x : Int} (hx : (getKv kv x).isSome = true) : Maps.has (DV kv) (.int .i64 x) = true := by
  obtain ⟨p, hp, e⟩ := List.mem_map.1 (getKv_isSome.1 hx)
  refine List.any_eq_true.2 ⟨(.int .i64 p.1, .held p.2), mem_sorted.2 (List.mem_map.2 ⟨p, hp, rfl⟩), ?_⟩
  rw [e]
  exact WideAt.sameKey_self (a := .int .i64 x) trivial
theorem sameKey_int (a b : Int) : (Lit.int .i64 a).sameKey (.int .i64 b) = decide (a = b) := by
  by_cases h : a = b
  · subst h
    rw [WideAt.sameKey_self (a := .int .i64 a) trivial]
    simp
  · have : (Lit.int .i64 a).sameKey (.int .i64 b) = false := by
      cases hs : (Lit.int .i64 a).sameKey (.int .i64 b)
      · rfl
      · have := WideAt.sameKey_eq hs
        injection this with _ this
        exact absurd this h
    rw [this]
    simp [h]
/-- The pages of s laid over m. -/
def over (m s : Pages) : Pages := fun n => if (s n).isSome = true then s n else m n
def overL (m s : Pages) (left : Lit → Bool) : Pages := fun n => if (s n).isSome = true ∧ left (.int .i64 n) = false then s n else m n
theorem invI {key : Value} {kl : Lit} (h : keyOf Tryz.prog 3 key = some kl) : ∃ x, key = .int .i64 x := by
  obtain ⟨x, h, _⟩ := Maps.keyOf_int_inv Tryz.underlying3 h
  exact ⟨x, h⟩
set_option maxHeartbeats 4000000 in
theorem copy_any (db sb : Nat) (m s : Pages) (w : World) (hd : Sp w db m) (hs : Sp w sb s) (hne : db ≠ sb) (hb : ∀ n, 256 ≤ n → s n = none) (hwf : ∀ n p, s n = some p → p.bytes.length = 256) :
    Calls Tryz.prog 64 #[.map (some db), .map (some sb)] w fun e w' => e = .returned (.tuple #[]) ∧ Sp w' db (over m s) ∧ Keep (fun q => q = db) w w' := by
  obtain ⟨kv, hmp, hget, hpos⟩ := hs
  have hl : kv.length ≤ maxLen := by
    have h1 := (Sp.keys hb hmp hget hpos).length_eq
    have h2 := pageNums_length s
    simp only [List.length_map] at h1
    unfold maxLen
    omega
  have hown := hmp.ownsV hl
  have hdl := hd.lt
  have hsl := hmp.lt
  have HG := Lib.hid hget
  have HM := Lib.hid hmp
  have HP := Lib.hid hpos
  have HB := Lib.hid hb
  have HW := Lib.hid hwf
  have HL := Lib.hid hl
  clear hget hmp hpos hb hwf hl
  have hz : ∀ w, (zeroValue 192).run Tryz.prog w = .ok (.agg Pg.zero.cells.toArray) w := zeroPage
  obtain ⟨zs, hzs⟩ : ∃ zs : List Value, zs = Pg.zero.cells := ⟨_, rfl⟩
  have hzl : zs.length = 257 := by rw [hzs]; simp [Pg.cells, Pg.zero]
  rw [← hzs] at hz
  have HZL := Lib.hid hzl
  clear hzs hzl
  go_enter Tryz.func64, Tryz.ntmps64
  go_wp2_with (first
    | (at_range; refine wpList_range_own _ rfl _ 132 rfl 3 192 keyedI Tryz.underlying132 _ sb kv.length _ rfl hown ?_; intro w0 hrg0 hg0 hs0)
    | go_in)
  go_frame
  go_loopw [4] (fun _ wr => ∃ (left : Lit → Bool) (cnt : Nat), wr.ranges Tryz.prog 3 RV sb w.heap.size kv.length (DV kv) left cnt ∧ Sp wr db (overL m s left) ∧ Keep (fun q => q = db) w wr)
    (fun _ wr => wr.rangeLeft sb w.heap.size)
  case atStart =>
    refine ⟨_, _, hrg0, ?_, ⟨hg0.os, hg0.tape, hg0.output, hg0.size, fun i hi _ => hg0.block i hi (by simp)⟩⟩
    have e : overL m s (Maps.has (DV kv)) = m := by
      funext n
      refine if_neg ?_
      rintro ⟨h1, h2⟩
      rw [DV_has (by rw [HG.out n, Option.isSome_map]; exact h1)] at h2
      cases h2
    rw [e]
    exact hd.of_block (hg0.block db hdl (by simp))
  case round =>
    obtain ⟨left, cnt, hrg, hsp, hkr⟩ := hrel
    go_wp2_with (first
      | (at_next; refine wpList_next_ranges _ rfl _ rfl 3 keyedI RV (Value.int .i64) id (fun key kl h => invI h) (fun v y h => ⟨v, rfl⟩) sb w.heap.size kv.length _ _ _ rfl hrg ?_ ?_)
      | go_in)
    · intro _ hl0
      go_wp2
      go_end0
      have e : overL m s left = over m s := by
        funext n
        unfold overL over
        simp [hl0]
      exact ⟨rfl, by rw [← e]; exact hsp, hkr⟩
    · intro x c kl y yp w1 cnt1 hkey hlx hR hat hrg1 hlt hg1 hs1 hen
      obtain ⟨x', ex, rfl, hwx⟩ := Maps.keyOf_int_inv Tryz.underlying3 hkey
      cases ex
      have hy : y = .held c := by
        have := congrArg (Option.map Prod.fst) hR
        simpa [RV] using this.symm
      subst hy
      have hgk := DV_at HM.out HL.out hwx hat
      obtain ⟨n, rfl⟩ : ∃ n : Nat, x = n := by
        have hm := getKv_isSome.1 (by rw [hgk]; rfl : (getKv kv x).isSome = true)
        obtain ⟨q, hq, rfl⟩ := List.mem_map.1 hm
        exact Int.eq_ofNat_of_zero_le (HP.out q hq)
      rw [HG.out n] at hgk
      obtain ⟨p, hp, rfl⟩ := Option.map_eq_some_iff.1 hgk
      have hpw := HW.out n p hp
      have hn256 : n < 256 := by
        refine Classical.byContradiction fun hc => ?_
        rw [HB.out n (by omega)] at hp
        cases hp
      have HX := Lib.hid (And.intro hlx hp)
      have HRG0 := Lib.hid hrg
      have HRG := Lib.hid hrg1
      have HLT := Lib.hid hlt
      have kr1 : Keep (fun q => q = db) w w1 := hkr.tr_new (S := fun q => q = db) (S' := fun q => q = w.heap.size) ⟨hg1.os, hg1.tape, hg1.output, hg1.size, fun i hi hn => hg1.block i hi (by simpa using fun e => hn e)⟩ (fun i hi => .inr (by omega))
      have sp1 : Sp w1 db (overL m s left) := hsp.of_block (hg1.block db hsp.lt (by simp; omega))
      obtain ⟨cs, hcs⟩ : ∃ cs, p.cells = cs := ⟨_, rfl⟩
      have hpv : p.v = .agg cs.toArray := by rw [← hcs]; rfl
      have hcl : cs.length = 257 := by rw [← hcs]; simp [Pg.cells, hpw]
      have hone : ∀ v ∈ cs, v.oneCell' = true := by rw [← hcs]; exact Pg.cells_one _
      have HPV := Lib.hid hpv
      have HK1 := Lib.hid kr1
      have HS1 := Lib.hid sp1
      rw [hpv] at hen ⊢
      have HCL := Lib.hid hcl
      have HONE := Lib.hid hone
      clear hs1 hgk hp hpw hlx hR hat hrg1 hlt hg1 kr1 sp1 hcs hcl hone hpv hsp hkey hrg
      go_wp2_with (first
        | (refine wpList_store_blk rfl 192 (.tmp 5) (.tmp 12) rfl rfl w1.heap.size cs zs 192 (Blk.new w1 zs _) rfl rfl (by rw [HCL.out]; kernel_rfl) (HZL.out.trans HCL.out.symm) HONE.out ?_; intro w2 B2 K2; have k12 : Bel w1 w2 := (Below.heap_alloc' w1 _).trans (K2.below _ (by simp) (fun k hk => by omega)); have HK12 := Lib.hid k12; clear k12 K2)
        | (refine wpList_load_mid rfl 192 (.tmp 5) rfl w1.heap.size 0 rfl cs _ (by have := B2.out.range 0; simpa using this) Tryz.underlying192 rfl (by rw [HCL.out]; kernel_rfl) ?_
           obtain ⟨es, clock, hup, hsp4, hk4⟩ := (HS1.out.bel HK12.out).update n (by omega) p
           rw [HPV.out] at hup
           have HS4 := Lib.hid hsp4
           have HK4 := Lib.hid hk4
           clear hsp4 hk4
           generalize hw4 : Go.ChangeMaps.setBlock w2 db (.map es clock) = w4 at *
           clear hw4))
      have hrg4 := (HRG.out.kept (w' := w2) (row := none) ⟨HK12.out.os, HK12.out.tape, HK12.out.output, HK12.out.size, fun i hi _ => HK12.out.block i hi⟩ (by simp) (by simp)).kept (w' := w4) (row := some db) ⟨HK4.out.os, HK4.out.tape, HK4.out.output, HK4.out.size, fun i hi hn => HK4.out.block i hi (by simpa using hn)⟩ (by simpa using fun e => hne e.symm) (by simp; omega)
      have HRG4 := Lib.hid hrg4
      clear hrg4
      go_roundw
      case rel =>
        refine ⟨_, cnt1, HRG4.out, ?_, HK1.out.tr ((Keep.of_bel _ HK12.out).tr HK4.out)⟩
        have e : overL m s (fun z => left z && !z.sameKey (.int .i64 n)) = fun i => if i = n then some p else overL m s left i := by
          funext i
          unfold overL
          simp only [sameKey_int]
          by_cases hi : i = n
          · subst hi
            simp [HX.out.2]
          · rw [if_neg hi]
            have : decide ((i : Int) = n) = false := by simp; omega
            rw [this]
            simp
        rw [e]
        exact HS4.out
      case measure => rw [HRG4.out.left_eq, HRG0.out.left_eq]; exact HLT.out
end Go.Proofs.YtkcjafnaephjiaaGreatDoor

/- append of an own row by one step of a region that draws. No program. -/
namespace Go.Proofs.YtkcjafnaephjiaaGreatDoor
open Go.RowKit

theorem step_append_cells {P : Program} {w : World} {base : Nat} {e : TypeId} {size : Nat} {v : Value} {n : Nat} {xs : List Value} {ops : Array Oper} {o : Oper} {a : Act} {K : Act → World → Prop} {Q : Exit → Act → World → Prop} {E : Prop} (hgd : o.guard = none) (s x : Operand) (t : TypeId)
    (ho : o.op = .call { callee := .builtin .append, args := #[s, x], argTypes := #[t, t] }) {bytes : Nat} (ht : P.underlying t = some (.slice e))
    (hi : (P.info? e).map (fun i => (i.size, i.bytes, (i.zero.map (·.cells.size)))) = some (size, bytes, some size)) (hsz : 0 < size)
    (hs : a.eval s = v) (hown : w.ownsRow base e size v n xs) (g m c : Nat) (cs : List Value) (hx : a.eval x = .slice (some ⟨g, 0, none⟩) m c) (hB : ∀ j u, cs[j]? = some u → w.cell? ⟨g, j, none⟩ = some u) (hl : cs.length = m * size) (h1 : ∀ u ∈ cs, u.oneCell' = true)
    (h63 : n + m ≤ maxLen) (hbytes : (n + m) * bytes ≤ 140737488355328) (hbase : base ≤ w.heap.size)
    (h : ∀ p cp w', w'.ownsRow base e size (.slice p (n + m) cp) (n + m) (xs ++ cs) → Keep (fun q => v.ownBlock = some q) w w' → K (a.put o.dst (.slice p (n + m) cp)) w') : if Region.wanted o (yielded ops a.tmps) = true then Oper.wp P o a w K Q else E := by
  have hw : Region.wanted o (yielded ops a.tmps) = true := by simp [Region.wanted, hgd]
  rw [if_pos hw]
  obtain ⟨i, z, hi, hz, e1, e2, e3⟩ := info_of hi
  obtain ⟨v', w', hrun, k1, k2, _⟩ := run_append_own (P := P) w base t o.type e i z size bytes ht hi hz e1 e2 e3 hsz v n xs hown ⟨g, 0, none⟩ m c cs hl (fun j u hj => by
    rw [show (⟨g, 0, none⟩ : Addr).add j = ⟨g, j, none⟩ from by unfold Addr.add; split <;> simp_all]
    exact hB j u hj) h1 h63 hbytes hbase
  obtain ⟨p, cp, rfl, _⟩ := row_slice k1
  unfold Oper.wp
  simp [execOp, ho, resolve, invoke, builtin, hs, hx, hrun, Result.andThen]
  exact h p cp w' k1 ⟨k2.os, k2.tape, k2.output, k2.size, fun k hk hn => k2.block k hk fun e => hn e.symm⟩
theorem step_load_mid {P : Program} {w : World} {ops : Array Oper} {o : Oper} {a : Act} {K : Act → World → Prop} {Q : Exit → Act → World → Prop} {E : Prop} (hgd : o.guard = none) (ty : TypeId) (x : Operand) (ho : o.op = .load ty x)
    (b off : Nat) (hx : a.eval x = .pointer (some ⟨b, off, none⟩)) (cs : List Value) (d : TypeDesc) (hc : w.rangeAt b off cs) (hu : P.underlying ty = some d) (hd : d.isRow = true) (hi : (P.info? ty).map (·.size) = some cs.length)
    (h : K (a.put o.dst (.agg cs.toArray)) w) : if Region.wanted o (yielded ops a.tmps) = true then Oper.wp P o a w K Q else E := by
  have hw : Region.wanted o (yielded ops a.tmps) = true := by simp [Region.wanted, hgd]
  rw [if_pos hw]
  exact wp_load_mid ty x ho b off hx cs d hc hu hd hi h
/-- A slice literal of one element, as one step. -/
theorem step_buildSlice_one {P : Program} {w : World} {ops : Array Oper} {o : Oper} {a : Act} {K : Act → World → Prop} {Q : Exit → Act → World → Prop} {E : Prop} (hg : o.guard = none) (t e : TypeId) (x : Operand) (ho : o.op = .buildSlice t 1 #[(0, x)])
    (cs : List Value) {b : Nat} (hx : (a.eval x).cells = cs.toArray) (hu : P.underlying t = some (.slice e)) (h : (P.info? e).map (fun i => (i.size, i.bytes, (i.zero.map (·.cells.size)))) = some (cs.length, b, some cs.length)) (hs : 0 < cs.length) (hb : cs.length ≤ 2 ^ 24)
    (hk : K (a.put o.dst (.slice (some ⟨w.heap.size, 0, none⟩) 1 1)) (w.alloc (.cells cs.toArray e))) : if Region.wanted o (yielded ops a.tmps) = true then Oper.wp P o a w K Q else E := by
  have hw : Region.wanted o (yielded ops a.tmps) = true := by simp [Region.wanted, hg]
  rw [if_pos hw]
  obtain ⟨i, z, hi, hz, h1, h2, h3⟩ := info_of h
  refine wp_buildSlice t e 1 #[(0, x)] ho cs.toArray i z hu hi hz (by rw [h1]; omega) (by rw [h1]; omega) ?_ hk
  simp only [Nat.one_mul, List.map_toArray, List.map_cons, List.map_nil]
  obtain ⟨zs, hzs⟩ : ∃ zs : List Value, (Array.range i.size).map (z.cells[· % z.cells.size]!) = zs.toArray := ⟨_, (Array.toArray_toList).symm⟩
  have hl : zs.length = cs.length := by have := congrArg Array.size hzs; simpa [h1] using this.symm
  rw [hzs]
  have := fill_next (fun k => some (k * i.size, i.size)) [] zs [] 0 (a.eval x) [] (by simp [hx, h1]) (by rw [hl, hx]; simp)
  simpa [hx, Instr.fill] using this
theorem run_buildSlice_one {P : Program} (t e : TypeId) (cs : List Value) {b : Nat} (hu : P.underlying t = some (.slice e)) (h : (P.info? e).map (fun i => (i.size, i.bytes, (i.zero.map (·.cells.size)))) = some (cs.length, b, some cs.length)) (hs : 0 < cs.length) (hb : cs.length ≤ 2 ^ 24) (w : World) :
    (Instr.buildSlice t 1 #[(0, .agg cs.toArray)]).run P w = .ok (.slice (some ⟨w.heap.size, 0, none⟩) 1 1) (w.alloc (.cells cs.toArray e)) := by
  obtain ⟨i, z, hi, hz, h1, h2, h3⟩ := info_of h
  refine run_buildSlice w t e 1 _ cs.toArray i z hu hi hz (by rw [h1]; omega) (by rw [h1]; omega) ?_
  simp only [Nat.one_mul]
  obtain ⟨zs, hzs⟩ : ∃ zs : List Value, (Array.range i.size).map (z.cells[· % z.cells.size]!) = zs.toArray := ⟨_, (Array.toArray_toList).symm⟩
  have hl : zs.length = cs.length := by have := congrArg Array.size hzs; simpa [h1] using this.symm
  rw [hzs]
  have := fill_next (fun k => some (k * i.size, i.size)) [] zs [] 0 (.agg cs.toArray) [] (by simp [Value.cells, h1]) (by rw [hl]; simp [Value.cells])
  simpa [Value.cells, Instr.fill] using this
end Go.Proofs.YtkcjafnaephjiaaGreatDoor

/- Where a node is, in plain words. No program. -/
namespace Go.Proofs.YtkcjafnaephjiaaGreatDoor
open Go.RowKit

def pathF (N : List Nd) : Nat → Nat → List UInt8
  | 0, _ => []
  | f + 1, id => if id ≤ 1 then [] else match N[id - 1]? with
    | none => []
    | some n => pathF N f n.par ++ (47 :: n.name.data.toList)
/-- The path of the node id. -/
def pathL (N : List Nd) (id : Nat) : List UInt8 := pathF N id id
/-- Each node's directory has a lesser number. -/
def Down (N : List Nd) : Prop := ∀ (i : Nat) (n : Nd), N[i]? = some n → n.par ≤ i
theorem pathF_same {N : List Nd} (h : Down N) : ∀ (f g id : Nat), id ≤ f → id ≤ g → pathF N f id = pathF N g id
  | 0, g, id, hf, _ => by
    obtain rfl : id = 0 := by omega
    cases g <;> simp [pathF]
  | f + 1, 0, id, _, hg => by
    obtain rfl : id = 0 := by omega
    simp [pathF]
  | f + 1, g + 1, id, hf, hg => by
    unfold pathF
    by_cases h1 : id ≤ 1
    · rw [if_pos h1, if_pos h1]
    · rw [if_neg h1, if_neg h1]
      cases hn : N[id - 1]? with
      | none => rfl
      | some n =>
        have := h (id - 1) n hn
        simp only
        rw [pathF_same h f g n.par (by omega) (by omega)]
theorem pathL_root (N : List Nd) {id : Nat} (h : id ≤ 1) : pathL N id = [] := by
  unfold pathL
  cases id with
  | zero => rfl
  | succ k => rw [pathF, if_pos h]
theorem pathL_step {N : List Nd} (h : Down N) {id : Nat} {n : Nd} (h1 : 1 < id) (hn : N[id - 1]? = some n) : pathL N id = pathL N n.par ++ (47 :: n.name.data.toList) := by
  unfold pathL
  cases id with
  | zero => omega
  | succ k =>
    rw [pathF, if_neg (by omega), hn]
    simp only
    have := h _ n hn
    rw [pathF_same h k n.par n.par (by omega) (Nat.le_refl _)]
theorem pathL_len {N : List Nd} (h : Down N) (hs : ∀ n ∈ N, n.name.size ≤ 1000) : ∀ (f id : Nat), id ≤ f → (pathL N id).length ≤ 1001 * id
  | 0, id, hf => by
    obtain rfl : id = 0 := by omega
    simp [pathL, pathF]
  | f + 1, id, hf => by
    by_cases h1 : id ≤ 1
    · rw [pathL_root N h1]; simp
    · cases hn : N[id - 1]? with
      | none =>
        unfold pathL
        cases id with
        | zero => omega
        | succ k => rw [pathF, if_neg h1, hn]; simp
      | some n =>
        rw [pathL_step h (by omega) hn]
        have h2 := h (id - 1) n hn
        have h3 := pathL_len h hs f n.par (by omega)
        have h4 := hs n (List.mem_of_getElem? hn)
        simp only [List.length_append, List.length_cons, Array.length_toList]
        have h5 : n.name.data.size ≤ 1000 := h4
        omega
end Go.Proofs.YtkcjafnaephjiaaGreatDoor
