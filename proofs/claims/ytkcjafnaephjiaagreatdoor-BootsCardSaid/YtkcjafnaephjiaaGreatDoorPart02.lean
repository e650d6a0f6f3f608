/- The document's walk of a path. -/
import Derived.Test.YtkcjafnaephjiaaGreatDoorPart01
import Derived.WalkKit
import Derived.Lib.EndianBits
import Derived.Test.YtkcjafnaephjiaaGreatDoorChecked
import Derived.Deep.QuietTactic
import Derived.BigQuiet
import Derived.Lib.Hide
import Derived.Test.YtkcjafnaephjiaaGreatDoorPart00
namespace Go.Proofs.YtkcjafnaephjiaaGreatDoor
open Go.RowKit
set_option maxRecDepth 100000

theorem results_four {fn : Func} {t u v x : Tmp} (h : fn.results = #[.tmp t, .tmp u, .tmp v, .tmp x]) (tmps : Array Value) (P : Program) (w : World) :
    (results fn tmps).run P w = .ok (.tuple #[tmps.getD t undef, tmps.getD u undef, tmps.getD v undef, tmps.getD x undef]) w := by
  simp [results, h]
theorem splitOn_len (c : UInt8) : ∀ l : List UInt8, (splitOn c l).length ≤ l.length + 1
  | [] => by simp [splitOn]
  | b :: l => by
    have ih := splitOn_len c l
    unfold splitOn
    split
    · simp; omega
    · cases hs : splitOn c l with
      | nil => exact absurd hs (splitOn_ne c l)
      | cons h t => rw [hs] at ih; simp [consHead] at ih ⊢; omega
theorem pathOf_len {s : List UInt8} {l : List (List UInt8)} (h : pathOf s = some l) : l.length ≤ 60 := by
  cases s with
  | nil => cases h
  | cons b r =>
    rw [pathOf_cons] at h
    split at h
    · rename_i hb
      split at h
      · cases h; simp
      · split at h
        · cases h; have := splitOn_len 47 r; omega
        · cases h
    · cases h
theorem childF_le (d : Nat) (s : ByteArray) : ∀ (i : Nat) (L : List Nd), childF d s i L ≤ i + L.length
  | _, [] => by simp [childF]
  | i, n :: L => by
    have ih := childF_le d s (i + 1) L
    unfold childF
    split <;> simp <;> omega
theorem child_le (L : List Nd) (d : Nat) (s : ByteArray) : child L d s ≤ L.length := by have := childF_le d s 0 L; unfold child; omega

def isDir (L : List Nd) (n : Nat) : Bool := (L[n - 1]?.map Nd.dir).getD false
/-- The document's walk: the directory, the last name, its number, the error. -/
def walkF (L : List Nd) : Nat → List (List UInt8) → Nat × ByteArray × Nat × Nat
  | _, [] => (0, ⟨#[]⟩, 1, 0)
  | d, [x] => (d, ⟨x.toArray⟩, child L d ⟨x.toArray⟩, 0)
  | d, x :: y :: t => if child L d ⟨x.toArray⟩ = 0 then (0, ⟨#[]⟩, 0, 9) else if isDir L (child L d ⟨x.toArray⟩) then walkF L (child L d ⟨x.toArray⟩) (y :: t) else (0, ⟨#[]⟩, 0, 11)
def docWalk (L : List Nd) (s : List UInt8) : Nat × ByteArray × Nat × Nat :=
  match pathOf s with
  | none => (0, ⟨#[]⟩, 0, 8)
  | some l => walkF L 1 l
def walkV (r : Nat × ByteArray × Nat × Nat) : Value := .tuple #[.int .i64 r.1, .string r.2.1, .int .i64 r.2.2.1, .int .i64 r.2.2.2]

theorem cell_bel {w w' : World} {a : Addr} {v : Value} (hb : Bel w w') (h : w.cell? a = some v) : w'.cell? a = some v := (hb.cell (World.block_lt_of_cell? _ _ h)).trans h
theorem TreeAt.bel {w w' : World} {kb g cap : Nat} {L : List Nd} (h : TreeAt w kb g cap L) (hb : Bel w w') : TreeAt w' kb g cap L :=
  ⟨cell_bel hb h.1, h.2.1, fun i n hi j v hv => cell_bel hb (h.2.2 i n hi j v hv)⟩

theorem names_ok (s : ByteArray) (w : World) (hs : s.size ≤ 1000000) (l : List (List UInt8)) (hl : pathOf s.data.toList = some l) (h0 : l ≠ []) :
    Calls Tryz.prog 69 #[.string s] w fun e w' => (∃ g cap, e = .returned (.tuple #[.slice (some ⟨g, 0, none⟩) l.length cap, .bool true]) ∧ l.length ≤ cap ∧ ∀ j x, l[j]? = some x → w'.cell? ⟨g, j, none⟩ = some (.string ⟨x.toArray⟩)) ∧ Bel w w' := by
  refine (names_any s w hs).mono ?_
  rintro e w' ⟨⟨_, h⟩, hb⟩
  obtain ⟨v, rfl, hrow⟩ := h l hl
  obtain ⟨p, cap, rfl, hc, _, hp⟩ := row_slice hrow
  have hpos : 0 < l.length := List.length_pos_iff.2 h0
  obtain ⟨g, rfl, _, _, hcl, _⟩ := hp.resolve_left (by omega)
  refine ⟨⟨g, cap, rfl, hc, fun j x hx => ?_⟩, hb⟩
  have hj := (List.getElem?_eq_some_iff.1 hx).1
  rw [hcl j (by simpa using hj), List.getElem?_map, hx]
  rfl
theorem names_root (s : ByteArray) (w : World) (hs : s.size ≤ 1000000) (hl : pathOf s.data.toList = some []) :
    Calls Tryz.prog 69 #[.string s] w fun e w' => (∃ p cap, e = .returned (.tuple #[.slice p 0 cap, .bool true])) ∧ Bel w w' := by
  refine (names_any s w hs).mono ?_
  rintro e w' ⟨⟨_, h⟩, hb⟩
  obtain ⟨v, rfl, hrow⟩ := h [] hl
  obtain ⟨p, cap, rfl, _⟩ := row_slice hrow
  exact ⟨⟨p, cap, rfl⟩, hb⟩

set_option maxHeartbeats 8000000 in
theorem walk_any (kb g cap : Nat) (L : List Nd) (w : World) (ht : TreeAt w kb g cap L) (s : ByteArray) (hs : s.size ≤ 1000000) (hl : L.length ≤ 1000000) :
    Calls Tryz.prog 46 #[.pointer (some ⟨kb, 0, none⟩), .string s] w fun e w' => e = .returned (walkV (docWalk L s.data.toList)) ∧ Bel w w' := by
  cases hp : pathOf s.data.toList with
  | none =>
    have HN := Lib.hid ((names_any s w hs).mono (fun e w' h => (⟨h.1.1 hp, h.2⟩ : e = .returned (.tuple #[.slice none 0 0, .bool false]) ∧ Bel w w')))
    have HR : Hid (docWalk L s.data.toList = (0, ⟨#[]⟩, 0, 8)) := Lib.hid (by unfold docWalk; rw [hp])
    clear hp
    go_enter Tryz.func46, Tryz.ntmps46
    go_wp2_with (go_at_call 69; with_reducible refine Calls.mono HN.out ?_; rintro e w1 ⟨rfl, k1⟩)
    ((try simp only [Exit.inBlock, Exit.then]); refine bodyPost_ret (results_four rfl _ _ _) rfl ?_)
    exact ⟨by rw [HR.out]; rfl, k1⟩
  | some l =>
    have hll := pathOf_len hp
    by_cases h0 : l = []
    · subst h0
      have HN := Lib.hid (names_root s w hs hp)
      have HR : Hid (docWalk L s.data.toList = (0, ⟨#[]⟩, 1, 0)) := Lib.hid (by unfold docWalk; rw [hp]; rfl)
      clear hp
      go_enter Tryz.func46, Tryz.ntmps46
      go_wp2_with (go_at_call 69; with_reducible refine Calls.mono HN.out ?_; rintro e w1 ⟨⟨p, c1, rfl⟩, k1⟩)
      ((try simp only [Exit.inBlock, Exit.then]); refine bodyPost_ret (results_four rfl _ _ _) rfl ?_)
      exact ⟨by rw [HR.out]; rfl, k1⟩
    · have HN := Lib.hid (names_ok s w hs l hp h0)
      have HR : Hid (docWalk L s.data.toList = walkF L 1 l) := Lib.hid (by unfold docWalk; rw [hp])
      have hpos : 0 < l.length := List.length_pos_iff.2 h0
      have hne : ((l.length : Int) == 0) = false := beq_eq_false_iff_ne.2 (by omega)
      have HCH : Hid (∀ d s W, Bel w W → _) := Lib.hid fun d s W hW => child_any kb g cap L W (ht.bel hW) d s hl
      have HIN : Hid (∀ id W, 1 ≤ id → id ≤ L.length → Bel w W → _) := Lib.hid fun id W h1 h2 hW => inode_any kb g cap L W (ht.bel hW) id h1 h2 hl
      have HT := Lib.hid ht
      clear hp h0 ht
      go_enter Tryz.func46, Tryz.ntmps46
      go_wp2_with (go_at_call 69; with_reducible refine Calls.mono HN.out ?_; rintro e w1 ⟨⟨g1, c1, rfl, hc1, hcl⟩, k1⟩)
      have HCL := Lib.hid hcl
      have K1 := Lib.hid k1
      clear hcl k1
      go_loop [10, 11] (fun dd i => ∃ k d : Nat, k < l.length ∧ i = .int .i64 k ∧ dd = .int .i64 d ∧ walkF L 1 l = walkF L d (l.drop k)) (fun _ i => l.length - (intOf i).toNat)
      case atStart => exact ⟨0, 1, hpos, rfl, rfl, by rfl⟩
      case round =>
        obtain ⟨k, d, hk, rfl, rfl, hw⟩ := hrel
        have HW := Lib.hid hw
        clear hw
        have c0 := HCL.out k l[k] (List.getElem?_eq_getElem hk)
        have hd : l.drop k = l[k] :: l.drop (k + 1) := List.drop_eq_getElem_cons hk
        generalize l[k] = x at *
        have HC := Lib.hid (HCH.out d ⟨x.toArray⟩ w1 K1.out)
        have HLE := child_le L d ⟨x.toArray⟩
        by_cases hk1 : k + 1 < l.length
        · have hd2 : l.drop (k + 1) = l[k + 1] :: l.drop (k + 2) := List.drop_eq_getElem_cons hk1
          have HW2 : Hid (walkF L 1 l = if child L d ⟨x.toArray⟩ = 0 then (0, ⟨#[]⟩, 0, 9) else if isDir L (child L d ⟨x.toArray⟩) then walkF L (child L d ⟨x.toArray⟩) (l.drop (k + 1)) else (0, ⟨#[]⟩, 0, 11)) := Lib.hid (by
            rw [HW.out, hd, hd2]; rfl)
          clear hd hd2 HW
          generalize (⟨x.toArray⟩ : ByteArray) = xs at *
          generalize child L d xs = n at *
          by_cases hn : n = 0
          · have HE : Hid (walkF L 1 l = (0, ⟨#[]⟩, 0, 9)) := Lib.hid (by rw [HW2.out, if_pos hn])
            subst hn
            go_wp2_with (go_at_call 70; with_reducible refine Calls.mono HC.out ?_; rintro e w2 ⟨rfl, rfl⟩)
            ((try simp only [Exit.inBlock, Exit.then]); refine bodyPost_ret (results_four rfl _ _ _) rfl ?_)
            exact ⟨by rw [HR.out, HE.out]; rfl, K1.out⟩
          · have hnb : ((n : Int) == 0) = false := beq_eq_false_iff_ne.2 (by omega)
            have HI := Lib.hid (HIN.out n w1 (by omega) HLE K1.out)
            have hlt : n - 1 < L.length := by omega
            have hr := (HT.out.bel K1.out).2.2 (n - 1) L[n - 1] (List.getElem?_eq_getElem hlt)
            have hct := (HT.out.bel K1.out).1
            have hcc := HT.out.2.1
            have HDI : Hid (isDir L n = L[n - 1].dir) := Lib.hid (by unfold isDir; rw [List.getElem?_eq_getElem hlt]; rfl)
            generalize L[n - 1] = nd at *
            obtain ⟨np, nn, ndd, nb, nv⟩ := nd
            have c3 : w1.cell? ⟨g, (n - 1) * 5 + 3, none⟩ = some (.bool ndd) := hr 3 _ rfl
            clear hr
            cases ndd with
            | false =>
              have HE : Hid (walkF L 1 l = (0, ⟨#[]⟩, 0, 11)) := Lib.hid (by rw [HW2.out, if_neg hn, HDI.out]; rfl)
              clear hn
              go_wp2_with (first
                | (go_at_call 70; with_reducible refine Calls.mono HC.out ?_; rintro e w2 ⟨rfl, rfl⟩)
                | (go_at_call 34; with_reducible refine Calls.mono HI.out ?_; rintro e w2 ⟨rfl, rfl⟩))
              ((try simp only [Exit.inBlock, Exit.then]); refine bodyPost_ret (results_four rfl _ _ _) rfl ?_)
              exact ⟨by rw [HR.out, HE.out]; rfl, K1.out⟩
            | true =>
              have HE : Hid (walkF L 1 l = walkF L n (l.drop (k + 1))) := Lib.hid (by rw [HW2.out, if_neg hn, HDI.out]; rfl)
              clear hn
              go_wp2_with (first
                | (go_at_call 70; with_reducible refine Calls.mono HC.out ?_; rintro e w2 ⟨rfl, rfl⟩)
                | (go_at_call 34; with_reducible refine Calls.mono HI.out ?_; rintro e w2 ⟨rfl, rfl⟩))
              go_round
              case rel => exact ⟨k + 1, n, hk1, by go_num, rfl, HE.out⟩
              case measure => simp [intOf] <;> omega
        · have hkk : k = l.length - 1 := by omega
          have hdn : l.drop (k + 1) = [] := List.drop_of_length_le (by omega)
          have HE : Hid (walkF L 1 l = (d, ⟨x.toArray⟩, child L d ⟨x.toArray⟩, 0)) := Lib.hid (by rw [HW.out, hd, hdn]; rfl)
          have hge : ¬ ((k : Int) < (l.length : Int) - 1) := by omega
          have c0' : w1.cell? ⟨g1, l.length - 1, none⟩ = some (.string ⟨x.toArray⟩) := by rw [← hkk]; exact c0
          clear c0
          clear hd hdn HW
          generalize (⟨x.toArray⟩ : ByteArray) = xs at *
          go_wp2_with (go_at_call 70; with_reducible refine Calls.mono HC.out ?_; rintro e w2 ⟨rfl, rfl⟩)
          ((try simp only [Exit.inBlock, Exit.then]); refine bodyPost_ret (results_four rfl _ _ _) rfl ?_)
          exact ⟨by rw [HR.out, HE.out]; rfl, K1.out⟩
end Go.Proofs.YtkcjafnaephjiaaGreatDoor

/- Plain arithmetic on bytes; no program. -/
namespace Go.Proofs.YtkcjafnaephjiaaGreatDoor
open Go.RowKit

theorem wrap_i16 (n : Int) : IntKind.i16.wrap n = (n + 32768) % 65536 - 32768 := by
  simp [IntKind.wrap, IntKind.bits, IntKind.signed]
  split <;> omega
theorem ofInt_congr {k : Nat} (m n : Int) (h : m % ((2 ^ k : Nat) : Int) = n % ((2 ^ k : Nat) : Int)) : BitVec.ofInt k m = BitVec.ofInt k n := by
  apply BitVec.eq_of_toNat_eq
  rw [BitVec.toNat_ofInt, BitVec.toNat_ofInt, h]
theorem i16_join (x y : Int) (h0 : 0 ≤ x) (h1 : x ≤ 255) (h2 : 0 ≤ y) (h3 : y ≤ 255) : bits .or .i16 x (IntKind.i16.wrap (y * 256)) = IntKind.i16.wrap (x + y * 256) := by
  obtain ⟨a, rfl⟩ := Int.eq_ofNat_of_zero_le h0
  obtain ⟨b, rfl⟩ := Int.eq_ofNat_of_zero_le h2
  have hb16 : 2 ^ IntKind.i16.bits = 65536 := rfl
  have e : BitVec.ofInt IntKind.i16.bits (IntKind.i16.wrap ((b : Int) * 256)) = BitVec.ofInt IntKind.i16.bits (((b * 256 : Nat)) : Int) := by
    apply ofInt_congr
    rw [wrap_i16, hb16]
    omega
  have ha : a < 2 ^ 8 := by omega
  have hj := Nat.two_pow_add_eq_or_of_lt ha b
  show IntKind.i16.wrap (((BitVec.ofInt IntKind.i16.bits (a : Int) ||| BitVec.ofInt IntKind.i16.bits (IntKind.i16.wrap ((b : Int) * 256))).toNat : Nat) : Int) = _
  rw [e]
  rw [BitVec.ofInt_natCast, BitVec.ofInt_natCast, BitVec.toNat_or, BitVec.toNat_ofNat, BitVec.toNat_ofNat, hb16]
  rw [Nat.mod_eq_of_lt (by omega : a < 65536), Nat.mod_eq_of_lt (by omega : b * 256 < 65536), Nat.or_comm, Nat.mul_comm b 256, show (256 : Nat) = 2 ^ 8 from rfl, ← hj]
  exact congrArg IntKind.i16.wrap (by omega)
theorem or_ab (a b : Int) (ha0 : 0 ≤ a) (ha1 : a ≤ 15) (hb0 : 0 ≤ b) (hb1 : b ≤ 15) : bits .or .i64 (a * 16) b = a * 16 + b :=
  bits_join .i64 63 (by decide) (fun n h0 h1 => by rw [IntKind.wrap_i64]; omega) 4 (a * 16) b (by omega) (by omega) (by omega) hb0 (by omega) (by omega)
end Go.Proofs.YtkcjafnaephjiaaGreatDoor

/- Numbers out of bytes, bytes out of numbers: the walks of Number, number, Put, put, word. -/
namespace Go.Proofs.YtkcjafnaephjiaaGreatDoor
open Go.RowKit
set_option maxRecDepth 100000

/-- Cells of a block, from a place on, hold these bytes. -/
structure Bts (w : World) (b o : Nat) (l : List Int) : Prop where
  cell : ∀ i, i < l.length → w.cell? ⟨b, o + i, none⟩ = (l[i]?).map (Value.int .u8)
  byte : ∀ x ∈ l, 0 ≤ x ∧ x ≤ 255

theorem Bts.at_ {w : World} {b o : Nat} {l : List Int} (h : Bts w b o l) (i : Nat) (hi : i < l.length) : w.cell? ⟨b, o + i, none⟩ = some (.int .u8 (l.getD i 0)) := by
  rw [h.cell i hi, List.getElem?_eq_getElem hi, List.getD_eq_getElem?_getD, List.getElem?_eq_getElem hi]; rfl
theorem Bts.byteAt {w : World} {b o : Nat} {l : List Int} (h : Bts w b o l) (i : Nat) (hi : i < l.length) : 0 ≤ l.getD i 0 ∧ l.getD i 0 ≤ 255 := by
  rw [List.getD_eq_getElem?_getD, List.getElem?_eq_getElem hi]; exact h.byte _ (List.getElem_mem hi)
theorem Bts.part {w : World} {b o : Nat} {l : List Int} (h : Bts w b o l) (k n : Nat) (hn : k + n ≤ l.length) : Bts w b (o + k) ((l.drop k).take n) where
  cell i hi := by
    simp only [List.length_take, List.length_drop] at hi
    rw [show o + k + i = o + (k + i) from by omega, h.cell (k + i) (by omega), List.getElem?_take, List.getElem?_drop]
    simp [show i < n from by omega]
  byte x hx := h.byte x (List.mem_of_mem_drop (List.mem_of_mem_take hx))
theorem Bts.of_cell {w w' : World} {b o : Nat} {l : List Int} (h : Bts w b o l) (hc : ∀ a, a.block = b → w'.cell? a = w.cell? a) : Bts w' b o l :=
  ⟨fun i hi => (hc _ rfl).trans (h.cell i hi), h.byte⟩

/-- The number behind some bytes, the lowest first. -/
def numV : List Int → Int
  | [] => 0
  | x :: r => x + 256 * numV r
theorem numV_step (l : List Int) (i : Nat) (hi : i < l.length) : numV (l.drop i) = l.getD i 0 + 256 * numV (l.drop (i + 1)) := by
  rw [List.drop_eq_getElem_cons hi, numV, List.getD_eq_getElem?_getD, List.getElem?_eq_getElem hi]; rfl
theorem numV_bound : ∀ (l : List Int), (∀ x ∈ l, 0 ≤ x ∧ x ≤ 255) → 0 ≤ numV l ∧ numV l < 256 ^ l.length
  | [], _ => by simp [numV]
  | x :: r, h => by
    have h1 := numV_bound r fun y hy => h y (List.mem_cons_of_mem _ hy)
    have h2 := h x List.mem_cons_self
    simp only [numV, List.length_cons, Int.pow_succ]
    omega
theorem pow_le_8 : ∀ (n : Nat), n ≤ 7 → (256 : Int) ^ n ≤ 72057594037927936
  | 0, _ => by decide
  | 1, _ => by decide
  | 2, _ => by decide
  | 3, _ => by decide
  | 4, _ => by decide
  | 5, _ => by decide
  | 6, _ => by decide
  | 7, _ => by decide
  | n + 8, h => by omega
theorem numV_small (l : List Int) (h : ∀ x ∈ l, 0 ≤ x ∧ x ≤ 255) (hl : l.length ≤ 7) : 0 ≤ numV l ∧ numV l < 72057594037927936 := by
  have := numV_bound l h
  have := pow_le_8 l.length hl
  omega
theorem numV_u64 (l : List Int) (h : ∀ x ∈ l, 0 ≤ x ∧ x ≤ 255) (hl : l.length ≤ 8) : 0 ≤ numV l ∧ numV l < 18446744073709551616 := by
  have h1 := numV_bound l h
  by_cases h8 : l.length = 8
  · rw [h8] at h1
    omega
  · have := pow_le_8 l.length (by omega)
    omega
theorem or_byte (n x : Int) (hn : 0 ≤ n) (hn1 : n < 72057594037927936) (hx : 0 ≤ x) (hx1 : x ≤ 255) : bits .or .u64 (n * 256) x = n * 256 + x :=
  bits_join .u64 64 (by decide) (fun n h0 h1 => by rw [IntKind.wrap_u64]; omega) 8 (n * 256) x (by omega) (by omega) (by omega) hx (by omega) (by omega)

set_option maxHeartbeats 4000000 in
theorem number_any (b o c : Nat) (l : List Int) (w : World) (hl : l.length ≤ 8) (h : Bts w b o l) :
    Calls Tryz.prog 86 #[.slice (some ⟨b, o, none⟩) l.length c] w fun e w' => e = .returned (.int .u64 (numV l)) ∧ w = w' := by
  go_enter Tryz.func86, Tryz.ntmps86
  go_wp2
  go_loop [3, 4] (fun n i => ∃ k : Nat, k ≤ l.length ∧ i = .int .i64 k ∧ n = .int .u64 (numV (l.drop k))) (fun _ i => (intOf i).toNat)
  case atStart => exact ⟨l.length, Nat.le_refl _, rfl, by simp [numV]⟩
  case round =>
    obtain ⟨k, hk, rfl, rfl⟩ := hrel
    cases k with
    | zero =>
      go_wp2
      go_ret
      exact ⟨rfl, rfl⟩
    | succ k =>
      have hs := Lib.hid (numV_step l k hk)
      have hc := h.at_ k hk
      have hx := h.byteAt k hk
      have hn := numV_small (l.drop (k + 1)) (fun x hx => h.byte x (List.mem_of_mem_drop hx)) (by simp; omega)
      have hor := or_byte _ _ hn.1 hn.2 hx.1 hx.2
      have hx0 := hx.1
      have hx1 := hx.2
      have hn0 := hn.1
      have hn1 := hn.2
      clear hx hn
      generalize l.getD k 0 = x at *
      generalize hy : numV (l.drop (k + 1)) = y at *
      have HY := Lib.hid hy
      clear hy
      go_wp2
      go_round
      case rel => exact ⟨k, by omega, by go_num, by rw [hs.out]; congr 1; omega⟩
      case measure => simp [intOf] <;> omega
set_option maxHeartbeats 4000000 in
theorem numberR_any (b o c : Nat) (l : List Int) (w : World) (hl : l.length ≤ 8) (h : Bts w b o l) :
    Calls Tryz.prog 73 #[.slice (some ⟨b, o, none⟩) l.length c] w fun e w' => e = .returned (.int .u64 (numV l)) ∧ w = w' := by
  go_enter Tryz.func73, Tryz.ntmps73
  go_wp2
  go_loop [3, 4] (fun n i => ∃ k : Nat, k ≤ l.length ∧ i = .int .i64 ((k : Int) - 1) ∧ n = .int .u64 (numV (l.drop k))) (fun _ i => (intOf i + 1).toNat)
  case atStart => exact ⟨l.length, Nat.le_refl _, rfl, by simp [numV]⟩
  case round =>
    obtain ⟨k, hk, rfl, rfl⟩ := hrel
    cases k with
    | zero =>
      go_wp2
      go_ret
      exact ⟨rfl, rfl⟩
    | succ k =>
      have hs := Lib.hid (numV_step l k hk)
      have hc := h.at_ k hk
      have hx := h.byteAt k hk
      have hn := numV_small (l.drop (k + 1)) (fun x hx => h.byte x (List.mem_of_mem_drop hx)) (by simp; omega)
      have hx0 := hx.1
      have hx1 := hx.2
      have hn0 := hn.1
      have hn1 := hn.2
      clear hx hn
      generalize l.getD k 0 = x at *
      rw [show (((k + 1 : Nat) : Int) - 1) = (k : Int) from by omega]
      generalize hy : numV (l.drop (k + 1)) = y at *
      have HY := Lib.hid hy
      clear hy
      go_wp2
      go_round
      case rel => exact ⟨k, by omega, by go_num, by rw [hs.out]; congr 1; omega⟩
      case measure => simp [intOf] <;> omega
end Go.Proofs.YtkcjafnaephjiaaGreatDoor

/- Numbers into bytes: Put, the document's put; word. -/
namespace Go.Proofs.YtkcjafnaephjiaaGreatDoor
open Go.RowKit
set_option maxRecDepth 100000

def bytes8 (n : Int) : List Int := [n % 256, n / 256 % 256, n / 65536 % 256, n / 16777216 % 256, n / 4294967296 % 256, n / 1099511627776 % 256, n / 281474976710656 % 256, n / 72057594037927936]

/-- Bytes as a function from places. -/
def rowOf (f : Nat → Int) (N : Nat) : List Value := (List.range N).map fun i => Value.int .u8 (f i)
def setF (f : Nat → Int) (i : Nat) (x : Int) : Nat → Int := fun j => if j = i then x else f j
def putF (f : Nat → Int) (o : Nat) (n : Int) : Nat → Int :=
  setF (setF (setF (setF (setF (setF (setF (setF f o (n % 256)) (o + 1) (n / 256 % 256)) (o + 2) (n / 65536 % 256)) (o + 3) (n / 16777216 % 256)) (o + 4) (n / 4294967296 % 256)) (o + 5) (n / 1099511627776 % 256)) (o + 6) (n / 281474976710656 % 256)) (o + 7) (n / 72057594037927936)
theorem rowOf_set (f : Nat → Int) (N i : Nat) (x : Int) : (rowOf f N).set i (.int .u8 x) = rowOf (setF f i x) N := by
  apply List.ext_getElem?
  intro k
  simp only [rowOf, List.getElem?_set, List.getElem?_map, List.length_map, List.length_range, setF]
  by_cases hk : k < N
  · rw [List.getElem?_range hk]
    by_cases hi : i = k
    · subst hi; simp [hk]
    · simp [hi, Ne.symm hi]
  · rw [List.getElem?_eq_none (by simp; omega)]
    by_cases hi : i = k
    · subst hi; simp [hk]
    · simp [hi]
theorem rowOf_length (f : Nat → Int) (N : Nat) : (rowOf f N).length = N := by simp [rowOf]
theorem rowOf_get (f : Nat → Int) (N i : Nat) (h : i < N) : (rowOf f N)[i]? = some (.int .u8 (f i)) := by simp [rowOf, h]
theorem Blk.row_set {w : World} {g N : Nat} {f : Nat → Int} {t : TypeId} (h : Blk w g (rowOf f N) t) (i : Nat) (x : Int) : Blk (w.setCell ⟨g, i, none⟩ (.int .u8 x)) g (rowOf (setF f i x) N) t := by
  rw [← rowOf_set]; exact h.setCell _
theorem Keep.setCell (w : World) (g i : Nat) (v : Value) : Keep (fun k => k = g) w (w.setCell ⟨g, i, none⟩ v) :=
  ⟨rfl, rfl, rfl, by simp, fun k _ hk => Below.heap_setCell w ⟨g, i, none⟩ v k hk⟩

set_option maxHeartbeats 8000000 in
theorem put_any (g o N : Nat) (f : Nat → Int) (t : TypeId) (cap : Nat) (n : Int) (w : World) (hB : Blk w g (rowOf f N) t) (ho : o + 8 ≤ N) (hN : N < 100000) (hcap : 8 ≤ cap) (hn : 0 ≤ n) (hn1 : n < 18446744073709551616) :
    Calls Tryz.prog 91 #[.slice (some ⟨g, o, none⟩) 8 cap, .int .u64 n] w fun e w' => e = .returned (.tuple #[]) ∧ Blk w' g (rowOf (putF f o n) N) t ∧ Keep (fun k => k = g) w w' := by
  have hc : ∀ i, i < 8 → w.cell? ⟨g, o + i, none⟩ = some (.int .u8 (f (o + i))) := fun i hi => (hB.cell _).trans (rowOf_get f N _ (by omega))
  have c0 : w.cell? ⟨g, o, none⟩ = some (.int .u8 (f o)) := hc 0 (by omega)
  have c1 := hc 1 (by omega)
  have c2 := hc 2 (by omega)
  have c3 := hc 3 (by omega)
  have c4 := hc 4 (by omega)
  have c5 := hc 5 (by omega)
  have c6 := hc 6 (by omega)
  have c7 := hc 7 (by omega)
  have hf := hB.frozen
  have hg := hB.lt
  clear hc
  go_enter Tryz.func91, Tryz.ntmps91
  go_wp2
  refine wp_loop_rounds 9 ?_
  iterate 9 (rw [rounds_succ]; go_wp2)
  go_end0
  exact ⟨rfl, (((((((hB.row_set _ _).row_set _ _).row_set _ _).row_set _ _).row_set _ _).row_set _ _).row_set _ _).row_set _ _,
    (((((((Keep.setCell _ _ _ _).tr (Keep.setCell _ _ _ _)).tr (Keep.setCell _ _ _ _)).tr (Keep.setCell _ _ _ _)).tr (Keep.setCell _ _ _ _)).tr (Keep.setCell _ _ _ _)).tr (Keep.setCell _ _ _ _)).tr (Keep.setCell _ _ _ _)⟩
set_option maxHeartbeats 8000000 in
theorem putR_any (g o N : Nat) (f : Nat → Int) (t : TypeId) (cap : Nat) (n : Int) (w : World) (hB : Blk w g (rowOf f N) t) (ho : o + 8 ≤ N) (hN : N < 100000) (hn : 0 ≤ n) (hn1 : n < 18446744073709551616) :
    Calls Tryz.prog 74 #[.slice (some ⟨g, 0, none⟩) N cap, .int .i64 o, .int .u64 n] w fun e w' => e = .returned (.tuple #[]) ∧ Blk w' g (rowOf (putF f o n) N) t ∧ Keep (fun k => k = g) w w' := by
  have hc : ∀ i, i < 8 → w.cell? ⟨g, o + i, none⟩ = some (.int .u8 (f (o + i))) := fun i hi => (hB.cell _).trans (rowOf_get f N _ (by omega))
  have c0 : w.cell? ⟨g, o, none⟩ = some (.int .u8 (f o)) := hc 0 (by omega)
  have c1 := hc 1 (by omega)
  have c2 := hc 2 (by omega)
  have c3 := hc 3 (by omega)
  have c4 := hc 4 (by omega)
  have c5 := hc 5 (by omega)
  have c6 := hc 6 (by omega)
  have c7 := hc 7 (by omega)
  have hf := hB.frozen
  have hg := hB.lt
  clear hc
  go_enter Tryz.func74, Tryz.ntmps74
  go_wp2
  refine wp_loop_rounds 9 ?_
  iterate 9 (rw [rounds_succ]; go_wp2)
  go_end0
  exact ⟨rfl, (((((((hB.row_set _ _).row_set _ _).row_set _ _).row_set _ _).row_set _ _).row_set _ _).row_set _ _).row_set _ _,
    (((((((Keep.setCell _ _ _ _).tr (Keep.setCell _ _ _ _)).tr (Keep.setCell _ _ _ _)).tr (Keep.setCell _ _ _ _)).tr (Keep.setCell _ _ _ _)).tr (Keep.setCell _ _ _ _)).tr (Keep.setCell _ _ _ _)).tr (Keep.setCell _ _ _ _)⟩
end Go.Proofs.YtkcjafnaephjiaaGreatDoor
