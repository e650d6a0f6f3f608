/- An address space of the program: a map from page numbers to pages. -/
import Derived.Test.YtologfdegdljeaaDoorChecked
import Derived.Test.YtologfdegdljeaaDoorMap
import Derived.Test.YtologfdegdljeaaDoorArith
import Derived.Deep.MidRow
import Derived.Deep.QuietTactic
import Derived.BigQuiet
import Derived.Lib.Hide
namespace Go.Proofs.YtologfdegdljeaaDoor
open Go.RowKit Go.Maps
set_option maxRecDepth 100000

def IsByte (b : Int) : Prop := 0 ≤ b ∧ b ≤ 255

/-- A page: what may be done with it, its 256 bytes. -/
structure Pg where
  perm : Int
  bytes : List Int

structure Pg.wf (p : Pg) : Prop where
  len : p.bytes.length = 256
  byte : ∀ x ∈ p.bytes, IsByte x
  perm : 0 ≤ p.perm ∧ p.perm ≤ 7

def Pg.cells (p : Pg) : List Value := .int .u8 p.perm :: p.bytes.map (Value.int .u8)
def Pg.v (p : Pg) : Value := .agg p.cells.toArray
def Pg.zero : Pg := ⟨0, List.replicate 256 0⟩
theorem Pg.zero_wf : Pg.zero.wf := ⟨by simp [Pg.zero], by simp [Pg.zero, IsByte], by simp [Pg.zero]⟩

noncomputable def keyI : KeyEnc Tryd.prog 3 Int := intEnc Tryd.underlying3
theorem keyedI : Keyed Tryd.prog 3 := int_keyed Tryd.underlying3

/-- The pages that are there. -/
abbrev Pages := Nat → Option Pg
structure PagesOk (m : Pages) : Prop where
  below : ∀ n, 256 ≤ n → m n = none
  wf : ∀ n p, m n = some p → p.wf

/-- Block b of w is the space m. -/
def Sp (w : World) (b : Nat) (m : Pages) : Prop :=
  ∃ kv, Mp keyI w b kv ∧ (∀ n : Nat, getKv kv (n : Int) = (m n).map Pg.v) ∧ ∀ p ∈ kv, 0 ≤ p.1

theorem Sp.lt {w : World} {b : Nat} {m : Pages} (h : Sp w b m) : b < w.heap.size := by
  obtain ⟨kv, h, _⟩ := h
  exact h.lt
theorem Sp.of_block {w w' : World} {b : Nat} {m : Pages} (h : Sp w b m) (hb : w'.heap[b]? = w.heap[b]?) : Sp w' b m := by
  obtain ⟨kv, h1, h2⟩ := h
  exact ⟨kv, h1.of_block hb, h2⟩
theorem Sp.bel {w w' : World} {b : Nat} {m : Pages} (h : Sp w b m) (hb : Bel w w') : Sp w' b m := h.of_block (hb.block b h.lt)
theorem Sp.alloc {w : World} {b : Nat} {m : Pages} (h : Sp w b m) (o : Obj) : Sp (w.alloc o) b m := h.bel (Bel.start w o)
theorem Sp.setCell {w : World} {b : Nat} {m : Pages} {a : Addr} (h : Sp w b m) (v : Value) : Sp (w.setCell a v) b m := by
  obtain ⟨kv, h1, h2⟩ := h
  exact ⟨kv, h1.setCell v, h2⟩

theorem zeroPage (w : World) : (zeroValue 106).run Tryd.prog w = .ok Pg.zero.v w := by
  have : Pg.zero.v = .agg (.int .u8 0 :: (List.replicate 256 (Value.int .u8 0))).toArray := by simp [Pg.v, Pg.cells, Pg.zero]
  rw [this]
  exact (by kernel_rfl : (zeroValue 106).run Tryd.prog w = .ok (.agg (.int .u8 0 :: (List.replicate 256 (Value.int .u8 0))).toArray) w)

/-- m[n]. -/
theorem Sp.lookup {w : World} {b : Nat} {m : Pages} (h : Sp w b m) (n : Nat) (hn : n < 9223372036854775808) :
    (Instr.lookup 68 (.map (some b)) (.int .i64 n) false).run Tryd.prog w = .ok ((m n).getD Pg.zero).v w := by
  obtain ⟨kv, h1, h2, _⟩ := h
  have := h1.lookup keyedI Tryd.underlying68 (n : Int) (WalkArith.wf_i64 (by omega)) false (zeroPage w)
  simp only [Bool.false_eq_true, if_false] at this
  rw [h2 n] at this
  rw [show Value.int .i64 (n : Int) = (keyI).kf (n : Int) from rfl, this]
  cases m n <;> rfl

theorem field_perm (p : Pg) (w : World) : (Instr.field 106 p.v 0).run Tryd.prog w = .ok (.int .u8 p.perm) w := by
  kernel_rfl

/-- May a page be used so? -/
def Pg.can (p : Pg) (perm : Int) : Bool := !(bits .and .u8 p.perm perm == 0)
def canAt (m : Pages) (n : Nat) (perm : Int) : Bool := ((m n).getD Pg.zero).can perm
/-- May n bytes from an address on be used so? -/
def mayAll (m : Pages) (perm : Int) (first last : Nat) : Bool := (List.range (last - first)).all fun i => canAt m (first + i) perm
def lastOf (a n : Int) : Nat := ((a + n + 255) / 256).toNat
def mayB (m : Pages) (a n perm : Int) : Bool :=
  if n = 0 then true else if n < 0 ∨ 65536 ≤ a ∨ 65536 - a < n then false else mayAll m perm (a / 256).toNat (lastOf a n)

theorem mayAll_snoc (m : Pages) (perm : Int) (f l : Nat) (h : f ≤ l) : mayAll m perm f (l + 1) = (mayAll m perm f l && canAt m l perm) := by
  unfold mayAll
  rw [show l + 1 - f = (l - f) + 1 from by omega, List.range_succ, List.all_append]
  simp [show f + (l - f) = l from by omega]
theorem mayAll_false (m : Pages) (perm : Int) (f l k : Nat) (h1 : f ≤ k) (h2 : k < l) (hk : canAt m k perm = false) : mayAll m perm f l = false := by
  unfold mayAll
  rw [List.all_eq_false]
  refine ⟨k - f, by simp; omega, ?_⟩
  simp [show f + (k - f) = k from by omega, hk]

set_option maxHeartbeats 4000000 in
/-- (Space).May. -/
theorem may_any (b : Nat) (m : Pages) (a n perm : Int) (w : World) (hs : Sp w b m) (ha : 0 ≤ a) (ha1 : a < 18446744073709551616) (hn : -9223372036854775808 ≤ n) (hn1 : n < 9223372036854775808) :
    Calls Tryd.prog 46 #[.map (some b), .int .u64 a, .int .i64 n, .int .u8 perm] w fun e w' => e = .returned (.bool (mayB m a n perm)) ∧ w = w' := by
  by_cases h0 : n = 0
  · subst h0
    go_enter Tryd.func46, Tryd.ntmps46
    go_wp2
    go_ret
    exact ⟨by simp [mayB], rfl⟩
  have g0 : (n == 0) = false := by simpa using h0
  by_cases h1 : n < 0 ∨ 65536 ≤ a ∨ 65536 - a < n
  · have hr : mayB m a n perm = false := by simp [mayB, h0, h1]
    have HR := Lib.hid hr
    clear hr
    by_cases h2 : n < 0
    · clear h1 h0
      go_enter Tryd.func46, Tryd.ntmps46
      go_wp2
      go_ret
      exact ⟨by rw [HR.out]; try rfl, rfl⟩
    · have h3 : 0 ≤ n := by omega
      by_cases h4 : 65536 ≤ a
      · clear h1 h0 h2
        go_enter Tryd.func46, Tryd.ntmps46
        go_wp2
        go_ret
        exact ⟨by rw [HR.out]; try rfl, rfl⟩
      · have h5 : a < 65536 := by omega
        have h6 : 65536 - a < n := by omega
        clear h1 h0 h2 h4
        go_enter Tryd.func46, Tryd.ntmps46
        go_wp2
        go_ret
        exact ⟨by rw [HR.out]; try rfl, rfl⟩
  · have h2 : 0 < n := by omega
    have h3 : a < 65536 := by omega
    have h4 : n ≤ 65536 - a := by omega
    have hr : mayB m a n perm = mayAll m perm (a / 256).toNat (lastOf a n) := by simp [mayB, h0, h1]
    have HR := Lib.hid hr
    clear hr h1 h0 hn hn1 ha1
    go_enter Tryd.func46, Tryd.ntmps46
    go_wp2
    go_loop [9] (fun p => ∃ k : Nat, (a / 256).toNat ≤ k ∧ k ≤ lastOf a n ∧ p = .int .i64 k ∧ mayAll m perm (a / 256).toNat k = true) (fun p => lastOf a n - (intOf p).toNat)
    case atStart => exact ⟨(a / 256).toNat, Nat.le_refl _, by simp only [lastOf]; omega, by congr 1; omega, by simp [mayAll]⟩
    case round =>
      obtain ⟨k, hk, hk1, rfl, hall⟩ := hrel
      have hl := hs.lookup k (by simp only [lastOf] at hk1; omega)
      have hf := field_perm ((m k).getD Pg.zero)
      have HA := Lib.hid hall
      clear hall
      have hkb : (k : Int) ≤ 256 := by simp only [lastOf] at hk1; omega
      by_cases hlt : (k : Int) * 256 < a + n
      · have hlast : k < lastOf a n := by simp only [lastOf]; omega
        cases hc : canAt m k perm with
        | false =>
          have hres := Lib.hid (HR.out.trans (mayAll_false m perm _ _ k hk hlast hc))
          have hb : (bits .and .u8 ((m k).getD Pg.zero).perm perm == 0) = true := by simpa [canAt, Pg.can] using hc
          clear hc
          go_wp2
          go_ret
          exact ⟨by rw [hres.out]; try rfl, rfl⟩
        | true =>
          have hnext := Lib.hid ((mayAll_snoc m perm _ k hk).trans (by rw [HA.out, hc]))
          have hb : (bits .and .u8 ((m k).getD Pg.zero).perm perm == 0) = false := by simpa [canAt, Pg.can] using hc
          clear hc
          go_wp2
          go_round
          case rel => exact ⟨k + 1, by omega, by omega, by go_num, hnext.out⟩
          case measure => simp [intOf] <;> omega
      · have hlast : lastOf a n = k := by simp only [lastOf] at hk1 ⊢; omega
        have hres := Lib.hid (HR.out.trans (by rw [hlast]; exact HA.out) : mayB m a n perm = true)
        clear hlast
        go_wp2
        go_ret
        exact ⟨by rw [hres.out]; try rfl, rfl⟩
end Go.Proofs.YtologfdegdljeaaDoor
