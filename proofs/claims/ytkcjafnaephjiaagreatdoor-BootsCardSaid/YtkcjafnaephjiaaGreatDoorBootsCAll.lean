/- The law Boots: Boot of any limits and any files answers as the document says: the error; behind it the processes, the files, what is used, an empty console; the files' bytes are as they were. No condition; the card ties errors.errorType, machine.fixed and the tables of unicode/utf8 to the program's text. -/
import Derived.Test.YtkcjafnaephjiaaGreatDoorCards
import Derived.Test.YtkcjafnaephjiaaGreatDoorTie
import Derived.ProofKit
import Derived.OpenShut
import Derived.LaidLaws
import Derived.LaidHandle
import Derived.Deep.DeepHandedRow
import Derived.Lib.LaidTab
import Derived.Lib.SmallJoins
import Derived.Test.YtkcjafnaephjiaaGreatDoorPart04
import Derived.Deep.Slices
import Derived.Deep.Fields
import Derived.Deep.Strs
import Derived.ChangeSame
import Derived.SizedLaws
import Derived.Test.YtkcjafnaephjiaaGreatDoorPart28
import Derived.Test.YtkcjafnaephjiaaGreatDoorPart06
import Derived.Test.YtkcjafnaephjiaaGreatDoorPart48
set_option linter.unusedVariables false
set_option linter.unusedSimpArgs false
namespace Go.Proofs.YtkcjafnaephjiaaGreatDoor
open Go.ChangeShapes Go.WideShapes Go.ChangeAt Go.RowKit
set_option maxRecDepth 100000

theorem own : ownKnob Tryz.prog.godebug = none := by kernel_rfl
theorem laidOut : laidOutB Tryz.prog = true := by kernel_rfl

theorem trodAll_stays {H : Type} {enc : TypeId × Value → H} {W W' : World} (hb : Bel W W') : ∀ {ts : List TypeId} {vs : List Value} {ds : List (DataW H)} {ps : List MemPlace},
    (∀ t ∈ ts, Tryz.prog.readableRec t = true ∧ t < Tryz.prog.types.size) → DataW.TrodAll enc Tryz.prog W 0 (fun _ => true) true ts vs ds ps → (∀ x ∈ ps, x.block < W.heap.size) →
    DataW.TrodAll enc Tryz.prog W' 0 (fun b => decide (b < W.heap.size)) true ts vs ds ps
  | [], vs, ds, ps, _, h, _ => by
    obtain ⟨rfl, rfl, rfl⟩ := trodAll_nil h
    exact trodAll_mk0
  | t :: ts, vs, ds, ps, hr, h, hlt => by
    obtain ⟨v, vs', d, ds', p, q, rfl, rfl, rfl, h1, h2⟩ := trodAll_cons h
    exact trodAll_cons_mk (Below.trod laidOut (hr t (by simp)).1 (hr t (by simp)).2 h1 hb (fun x hx => hlt x (by simp [hx]))) (trodAll_stays hb (fun u hu => hr u (by simp [hu])) h2 (fun x hx => hlt x (by simp [hx])))

/-- What the row asks behind the call. -/
theorem law_post {H : Type} {enc : TypeId × Value → H} {f : Func} {s : ChangeSpec} {W W' : World} {args : Array Value} {ds : List (DataW H)} {before : List MemPlace}
    (hW : DataW.Whole enc Tryz.prog f.params.toList s.vars false W args.toList ds [] before) (hv : s.vars = []) (hres : f.resultTypes = #[4])
    (hr : ∀ t ∈ f.params.toList, Tryz.prog.readableRec t = true ∧ t < Tryz.prog.types.size) (hs : s.fn H (ds ++ []) = { results := [.lit (.bool true)], args := ds }) (hb : Bel W W') :
    s.post enc Tryz.prog f false true false false W args (.bool true) W' := by
  have hW' := hW
  obtain ⟨p, q, hA, hV, hbef, hfz, hnd⟩ := hW
  have hlt : ∀ x ∈ p, x.block < W.heap.size := fun x hx => hW'.lt x (by rw [hbef]; simp [hx])
  refine ⟨ds, [], before, [], p, [], hW', ?_, ?_, ?_, Below.frame hb _, fun h => by cases h⟩
  · rw [hs, hres]; exact trodAll_mk1 (shut_bool Tryz.underlying4 true)
  · rw [hs]; exact trodAll_stays hb hr hA hlt
  · rw [hs, hv]; rfl

theorem okWide_array {w : World} {r : Reach} {base : Nat} {t e : TypeId} {n : Nat} {v : Value} (ht : Tryz.prog.underlying t = some (.array n e)) (h : Value.okWide Tryz.prog w r base t v) : ∃ cs, v = .agg cs ∧ cs.size = Tryz.prog.cellsOf t := by
  simp only [Value.okWide, ht] at h
  obtain ⟨cs, h1, h2, _⟩ := h
  exact ⟨cs, h1, h2⟩

/-! ### errors.errorType out of the row's list -/
theorem etName : Tryz.prog.globalNamed "errors.errorType" = some 0 := by kernel_rfl
theorem rtName : (Tryz.prog.cutTypes.find? (·.1 == "internal/reflectlite.rtype")).map (·.2) = some 195 := by kernel_rfl
theorem oneRow : ((List.range Tryz.prog.types.size).filter fun t => Tryz.prog.rowNamed t [101, 114, 114, 111, 114]) = [40] := by kernel_rfl
theorem errVar_of {laid : List (String × DataW Unit)} (hm : ("errors.errorType", Rows.laid_errors_errorType) ∈ laid) {W : World} (h : handlesMet Tryz.prog laid W) : ErrVar W := by
  obtain ⟨name, u, ty, e1, e2, e3, e4, e5⟩ := h _ hm
  have en : name = [101, 114, 114, 111, 114] := (Option.some.inj e1).symm
  subst en
  obtain rfl := Option.some.inj (rtName.symm.trans e2)
  have hm : ty ∈ (List.range Tryz.prog.types.size).filter fun t => Tryz.prog.rowNamed t [101, 114, 114, 111, 114] := List.mem_filter.2 ⟨List.mem_range.2 e3, e4⟩
  rw [oneRow] at hm
  obtain rfl := List.mem_singleton.1 hm
  have hh : typeHandle Tryz.prog 40 = .pointer (some ⟨5, 40, none⟩) := by kernel_rfl
  rw [hh] at e5
  have := World.var?_cell etName e5 0
  simpa [ErrVar] using this
end Go.Proofs.YtkcjafnaephjiaaGreatDoor

/- An argument that is a Setting: its limits and its files, laid open. -/
namespace Go.Proofs.YtkcjafnaephjiaaGreatDoor
open Go.ChangeShapes Go.WideShapes Go.ChangeAt Go.RowKit Go.Deep
set_option maxRecDepth 100000

section
variable {H : Type} {enc : TypeId × Value → H} {P : Program} {w : World} {base : Nat} {spare : Nat → Bool} {held : Bool}
theorem open_fields {t e : TypeId} {fs : Array Field} {fuel : Nat} {cs : List Value} {x : DataW H × List MemPlace} (ht : P.underlying t = some (.slice e)) (he : P.underlying e = some (.struct fs))
    (hone : oneCellFields P fs = true) (hC : P.cellsOf e = fs.size) (h : DataW.trod enc P w base spare held fuel t cs = some x) :
    (cs = [.slice none 0 0] ∧ x = (.nil, [])) ∨
    ∃ (a : Addr) (len cap m : Nat) (D : Nat → DataW H), cs = [.slice (some a) len cap] ∧ len ≤ cap ∧ cap ≤ maxLen ∧ m = (if spare a.block then cap else len) ∧
      x.1 = .slice ((List.range len).map D) ((List.range (m - len)).map fun j => D (len + j)) ∧
      ∀ i, i < m → ∃ (ys : List (DataW H × List MemPlace)) (n : Nat), D i = .agg (ys.map (·.1)) ∧ ys.length = fs.size ∧
        ∀ (j : Nat) (f : Field), fs[j]? = some f → ∃ (v : Value) (y : DataW H × List MemPlace), w.cell? (a.add (i * fs.size + j)) = some v ∧ ys[j]? = some y ∧ DataW.trod enc P w base spare held n f.type [v] = some y := by
  rcases open_slice ht h with h0 | ⟨a, len, cap, m, n, D, Pl, hcs, hb, hl, hm, hmm, hx, hi⟩
  · exact .inl h0
  · refine .inr ⟨a, len, cap, m, D, hcs, hl, hm, hmm, by rw [hx], fun i him => ?_⟩
    obtain ⟨cs', hc, ht'⟩ := hi i him
    rw [hC] at hc
    obtain ⟨ys, n', hn', hy, hlen, hyl, hf⟩ := DataW.trod_struct he ht'
    obtain ⟨_, hcl, hat⟩ := World.cells?_some hc
    simp only [Prod.mk.injEq] at hy
    refine ⟨ys, n', hy.1, hyl, fun j f hj => ?_⟩
    obtain ⟨ho, hk⟩ := hone_of hone j f hj
    have hjl : j < fs.size := (Array.getElem?_eq_some_iff.1 hj).1
    have hcell := hat j hjl
    have hv : cs'[j]? = some (cs'[j]'(by omega)) := List.getElem?_eq_getElem (by omega)
    have h1 := hf j f hj
    rw [ho, hk] at h1
    have hone' : (cs'.drop j).take 1 = [cs'[j]'(by omega)] := by
      rw [List.drop_eq_getElem_cons (by omega)]
      rfl
    rw [hone'] at h1
    have hys : ys[j]? = some (ys[j]'(by omega)) := List.getElem?_eq_getElem (by omega)
    refine ⟨_, _, ?_, hys, h1.trans hys⟩
    rw [← Go.Deep.add_add, hcell, hv]
theorem weights_all {e : TypeId} {n : Nat} : ∀ {l : List (DataW H)} {d : DataW H}, d ∈ l → n ∈ d.weights P e → n ∈ DataW.weightsAll P e l
  | d0 :: l, d, hd, hn => by
    simp only [DataW.weightsAll, List.mem_append]
    rcases List.mem_cons.1 hd with rfl | h
    · exact .inl hn
    · exact .inr (weights_all h hn)
end

theorem u8_bds {n : Int} (h : (Lit.int .u8 n).wf = true) : 0 ≤ n ∧ n ≤ 255 := by
  simp [Lit.wf, IntKind.min, IntKind.max, IntKind.signed, IntKind.bits] at h; omega
section
variable {H : Type} {enc : TypeId × Value → H} {W : World}
/-- A slice of bytes, its spare room read too. -/
theorem open_bytes {fuel : Nat} {v : Value} {y : DataW H × List MemPlace} (h : DataW.trod enc Tryz.prog W 0 (fun _ => true) true fuel 32 [v] = some y) (hw : ∀ n ∈ y.1.weights Tryz.prog 32, n ≤ reachBytes) :
    ∃ (q : Option Addr) (L : List Int) (cap : Nat), v = .slice q L.length cap ∧ BS W q L ∧ L.length ≤ cap ∧ L.length ≤ reachBytes ∧ (0 < L.length → ∀ b o, q = some ⟨b, o, none⟩ → b < W.heap.size) := by
  rcases open_ints Tryz.underlying32 Tryz.underlying5 (by kernel_rfl) h with ⟨hcs, hx⟩ | ⟨a, len', cap', zs, hcs, _, hl, hm, hz, hx, hcell, hwz⟩
  · obtain rfl := List.singleton_inj.1 hcs
    exact ⟨none, [], 0, rfl, ⟨fun x hx => (by cases hx), fun h => absurd h (by simp)⟩, Nat.zero_le _, Nat.zero_le _, fun h => absurd h (by simp)⟩
  · obtain rfl := List.singleton_inj.1 hcs
    simp only [if_true] at hz
    have hlz : len' ≤ zs.length := by omega
    have hreach : zs.length ≤ reachBytes := by
      rw [hx] at hw
      have := hw (((lits .u8 (zs.take len') : List (DataW H)).length + (lits .u8 (zs.drop len') : List (DataW H)).length) * Tryz.prog.bytesOf 5) (by simp [DataW.weights, Tryz.underlying32])
      rw [show Tryz.prog.bytesOf 5 = 1 from by kernel_rfl] at this
      simp [lits] at this
      omega
    obtain ⟨ab, ao, spot⟩ := a
    by_cases h0 : 0 < zs.length
    · have hspot : spot = none := by simpa [Addr.add] using World.cell?_spot (hcell 0 h0)
      subst hspot
      have hc : ∀ i, i < len' → W.cell? ⟨ab, ao + i, none⟩ = ((zs.take len')[i]?).map (Value.int .u8) := fun i hi => by
        have := hcell i (by omega)
        rw [Addr.add_lit] at this
        rw [this, List.getElem?_take, if_pos hi, List.getD_eq_getElem?_getD, List.getElem?_eq_getElem (by omega)]
        rfl
      have hlt : ab < W.heap.size := by
        have := World.block_lt_of_cell? _ _ (hcell 0 h0)
        simpa [Addr.add] using this
      refine ⟨_, zs.take len', cap', by simp; omega, ⟨fun x hx => u8_bds (hwz x (List.mem_of_mem_take hx)), fun h0 => ⟨ab, ao, rfl, hlt, ⟨fun i hi => hc i (by simp at hi; omega), fun x hx => u8_bds (hwz x (List.mem_of_mem_take hx))⟩⟩⟩, by simp; omega, by simp; omega, fun _ b o e => by cases e; exact hlt⟩
    · obtain rfl : len' = 0 := by omega
      exact ⟨_, [], cap', rfl, ⟨fun x hx => (by cases hx), fun h => absurd h (by simp)⟩, Nat.zero_le _, Nat.zero_le _, fun h => absurd h (by simp)⟩
/-- One of the files. -/
structure FileOk (W : World) (f : FileA) : Prop where
  bs : BS W f.p f.byt
  len : f.byt.length ≤ reachBytes
  path : f.path.size ≤ reachBytes
  cap : f.byt.length ≤ f.cap
  lt : 0 < f.byt.length → ∀ b o, f.p = some ⟨b, o, none⟩ → b < W.heap.size
def FileAt (W : World) (a : Addr) (i : Nat) (f : FileA) : Prop := W.cell? (a.add (i * 3)) = some (.string f.path) ∧ W.cell? (a.add (i * 3 + 1)) = some (.bool f.dir) ∧ W.cell? (a.add (i * 3 + 2)) = some (.slice f.p f.byt.length f.cap) ∧ FileOk W f
theorem open_files {fuel : Nat} {v : Value} {y : DataW H × List MemPlace} (h : DataW.trod enc Tryz.prog W 0 (fun _ => true) true fuel 24 [v] = some y) (hw : ∀ n ∈ y.1.weights Tryz.prog 24, n ≤ reachBytes) :
    ∃ (q : Option Addr) (F : List FileA) (cap : Nat), v = .slice q F.length cap ∧ F.length ≤ reachBytes ∧ (∀ (i : Nat) (f : FileA), F[i]? = some f → ∃ g o, q = some ⟨g, o, none⟩ ∧ W.rangeAt g (o + i * 3) [.string f.path, .bool f.dir, .slice f.p f.byt.length f.cap]) ∧ ∀ f ∈ F, FileOk W f := by
  rcases open_fields Tryz.underlying24 Tryz.underlying44 (by kernel_rfl) (by kernel_rfl) h with ⟨hcs, hx⟩ | ⟨a, len, cap, m, D, hcs, hl, hm, hmm, hx, hi⟩
  · obtain rfl := List.singleton_inj.1 hcs
    exact ⟨none, [], 0, rfl, Nat.zero_le _, fun i f h => (by cases h), fun f h => (by cases h)⟩
  · obtain rfl := List.singleton_inj.1 hcs
    simp only [if_true] at hmm
    subst hmm
    rw [hx] at hw
    have hlen : len ≤ reachBytes := by
      have := hw ((((List.range len).map D).length + ((List.range (m - len)).map fun j => D (len + j)).length) * Tryz.prog.bytesOf 44) (by simp [DataW.weights, Tryz.underlying24])
      rw [show Tryz.prog.bytesOf 44 = 48 from by kernel_rfl] at this
      simp at this
      omega
    have hex : ∀ i, ∃ f : FileA, i < len → FileAt W a i f := fun i => by
      by_cases hil : i < len
      · obtain ⟨ys, n, hD, hyl, hf⟩ := hi i (by omega)
        have hwD : ∀ k ∈ (D i).weights Tryz.prog 44, k ≤ reachBytes := fun k hk => hw k (by
          simp only [DataW.weights, Tryz.underlying24, List.mem_cons, List.mem_append]
          exact .inr (.inl (weights_all (List.mem_map.2 ⟨i, List.mem_range.2 hil, rfl⟩) hk)))
        obtain ⟨v0, y0, c0, k0, t0⟩ := hf 0 _ rfl
        obtain ⟨v1, y1, c1, k1, t1⟩ := hf 1 _ rfl
        obtain ⟨v2, y2, c2, k2, t2⟩ := hf 2 _ rfl
        have hys : ys = [y0, y1, y2] := by
          match ys, hyl with
          | [z0, z1, z2], _ => cases k0; cases k1; cases k2; rfl
        rw [hD, hys] at hwD
        have hw3 : ∀ k, k ∈ y0.1.weights Tryz.prog 9 ∨ k ∈ y1.1.weights Tryz.prog 4 ∨ k ∈ y2.1.weights Tryz.prog 32 → k ≤ reachBytes := fun k hk => hwD k (by
          simp only [DataW.weights, Tryz.underlying44, List.map_cons, List.map_nil, DataW.weightsEach, List.mem_append]
          rcases hk with hk | hk | hk
          · exact .inl hk
          · exact .inr (.inl hk)
          · exact .inr (.inr (.inl hk)))
        obtain ⟨s, e0, x0, _⟩ := DataW.trod_string Tryz.underlying9 t0
        obtain ⟨b, e1, x1⟩ := DataW.trod_bool Tryz.underlying4 t1
        obtain ⟨q, L, c, rfl, b1, b2, b3, b4⟩ := open_bytes t2 (fun k hk => hw3 k (.inr (.inr hk)))
        obtain rfl := List.singleton_inj.1 e0
        obtain rfl := List.singleton_inj.1 e1
        refine ⟨⟨s, b, q, c, L⟩, fun _ => ⟨c0, c1, c2, b1, b3, ?_, b2, b4⟩⟩
        have := hw3 s.data.toList.length (.inl (by rw [x0]; simp [DataW.weights]))
        simpa using this
      · exact ⟨⟨⟨#[]⟩, false, none, 0, []⟩, fun h => absurd h hil⟩
    obtain ⟨Ff, hFf⟩ := Classical.skolem.1 hex
    have hget : ∀ (i : Nat) (f : FileA), ((List.range len).map Ff)[i]? = some f → i < len ∧ FileAt W a i f := fun i f hf => by
      have hlt := (List.getElem?_eq_some_iff.1 hf).1
      simp at hlt
      rw [List.getElem?_map, List.getElem?_range hlt] at hf
      cases hf
      exact ⟨hlt, hFf i hlt⟩
    refine ⟨some a, (List.range len).map Ff, m, by simp, by simpa using hlen, fun i f hf => ?_, fun f hf => ?_⟩
    · obtain ⟨hil, h0, h1, h2, _⟩ := hget i f hf
      have h00 := (hFf 0 (by omega)).1
      obtain ⟨ab, ao, spot⟩ := a
      have hspot : spot = none := by simpa [Addr.add] using World.cell?_spot h00
      subst hspot
      refine ⟨ab, ao, rfl, fun j u hj => ?_⟩
      rw [Addr.add_lit] at h0 h1 h2
      match j, hj with
      | 0, hj => cases hj; exact h0
      | 1, hj => cases hj; rw [Nat.add_assoc]; exact h1
      | 2, hj => cases hj; rw [Nat.add_assoc]; exact h2
    · obtain ⟨i, hi⟩ := List.mem_iff_getElem?.1 hf
      exact (hget i f hi).2.2.2.2
theorem int_of {t : TypeId} {k : IntKind} {n : Nat} {c : Value} {y : Option (DataW H × List MemPlace)} (hu : Tryz.prog.underlying t = some (.int k)) (h : DataW.trod enc Tryz.prog W 0 (fun _ => true) true n t [c] = y) (hy : y.isSome = true) : ∃ z, c = .int k z := by
  obtain ⟨y', rfl⟩ := Option.isSome_iff_exists.1 hy
  obtain ⟨z, hz, _⟩ := DataW.trod_int hu h
  exact ⟨z, List.singleton_inj.1 hz⟩
/-- A Setting. -/
theorem open_setting {base fuel : Nat} {v : Value} {y : DataW H × List MemPlace} (hv : Value.okWide Tryz.prog W .any base 26 v) (h : DataW.trod enc Tryz.prog W 0 (fun _ => true) true fuel 26 v.cells.toList = some y) (hw : ∀ n ∈ y.1.weights Tryz.prog 26, n ≤ reachBytes) :
    ∃ (l : Lims) (q : Option Addr) (F : List FileA) (cap : Nat), v = .agg #[.int .i64 l.a, .int .i64 l.b, .int .i64 l.c, .int .i64 l.d, .int .i64 l.e, .slice q F.length cap] ∧ F.length ≤ reachBytes ∧ (∀ (i : Nat) (f : FileA), F[i]? = some f → ∃ g o, q = some ⟨g, o, none⟩ ∧ W.rangeAt g (o + i * 3) [.string f.path, .bool f.dir, .slice f.p f.byt.length f.cap]) ∧ ∀ f ∈ F, FileOk W f := by
  obtain ⟨cs, rfl, hsz⟩ := okWide_struct Tryz.underlying26 hv
  obtain ⟨L⟩ := cs
  have hL : L.length = 6 := hsz.trans (by kernel_rfl)
  match L, hL with
  | [c0, c1, c2, c3, c4, c5], _ =>
    obtain ⟨xs, n, _, hx, _, hlen, hg⟩ := DataW.trod_struct Tryz.underlying26 h
    have g0 := hg 0 _ rfl
    have g1 := hg 1 _ rfl
    match xs, hlen with
    | [z0, z1], _ =>
      have g0' : DataW.trod enc Tryz.prog W 0 (fun _ => true) true n 23 [c0, c1, c2, c3, c4] = some z0 := g0
      have g1' : DataW.trod enc Tryz.prog W 0 (fun _ => true) true n 24 [c5] = some z1 := g1
      obtain ⟨us, n', _, hux, _, hul, hug⟩ := DataW.trod_struct Tryz.underlying23 g0'
      have hs : ∀ i, i < 5 → (us[i]?).isSome = true := fun i hi => by
        have : us.length = 5 := hul
        rw [List.getElem?_eq_getElem (by omega)]; rfl
      obtain ⟨a, rfl⟩ := int_of Tryz.underlying3 (show DataW.trod enc Tryz.prog W 0 (fun _ => true) true n' 3 [c0] = us[0]? from hug 0 _ rfl) (hs 0 (by omega))
      obtain ⟨b, rfl⟩ := int_of Tryz.underlying3 (show DataW.trod enc Tryz.prog W 0 (fun _ => true) true n' 3 [c1] = us[1]? from hug 1 _ rfl) (hs 1 (by omega))
      obtain ⟨c, rfl⟩ := int_of Tryz.underlying3 (show DataW.trod enc Tryz.prog W 0 (fun _ => true) true n' 3 [c2] = us[2]? from hug 2 _ rfl) (hs 2 (by omega))
      obtain ⟨d, rfl⟩ := int_of Tryz.underlying3 (show DataW.trod enc Tryz.prog W 0 (fun _ => true) true n' 3 [c3] = us[3]? from hug 3 _ rfl) (hs 3 (by omega))
      obtain ⟨e, rfl⟩ := int_of Tryz.underlying3 (show DataW.trod enc Tryz.prog W 0 (fun _ => true) true n' 3 [c4] = us[4]? from hug 4 _ rfl) (hs 4 (by omega))
      obtain ⟨q, F, cap, rfl, h1, h2, h3⟩ := open_files g1' (fun k hk => hw k (by
        rw [hx]
        simp only [DataW.weights, Tryz.underlying26, List.map_cons, List.map_nil, DataW.weightsEach, List.mem_append]
        exact .inr (.inl hk)))
      exact ⟨⟨a, b, c, d, e⟩, q, F, cap, rfl, h1, h2, h3⟩
end
end Go.Proofs.YtkcjafnaephjiaaGreatDoor

/- For the cards: machine.fixed, errors.errorType and bytealg.MaxLen out of the form's premises; a world for the witness. -/
namespace Go.Proofs.YtkcjafnaephjiaaGreatDoor
open Go.ChangeShapes Go.WideShapes Go.ChangeAt Go.RowKit
set_option maxRecDepth 100000

/-! ### machine.fixed out of the row's list -/
theorem fixName : Tryz.prog.globalNamed "tinyos/machine.fixed" = some 1 := by kernel_rfl
theorem fixType : (Tryz.prog.globals[1]?).map (·.type) = some 263 := by kernel_rfl
theorem fixData : (Rows.laid_tinyos_machine_fixed : DataW Unit) = .agg (fixedL.map fun q => .agg [.lit (.int .i64 q.1), .lit (.int .i64 q.2.1), .lit (.int .u64 q.2.2)]) := rfl
theorem take1 {c : List Value} {k : Nat} {v : Value} (h : (c.drop k).take 1 = [v]) : c[k]? = some v := by
  have := congrArg (·[0]?) h
  simpa [List.getElem?_take, List.getElem?_drop] using this
theorem field_cells {w : World} {m : Nat} {c : List Value} {p : List MemPlace} {q : Nat × Nat × Int}
    (h : DataW.trod (fun _ => ()) Tryz.prog w 0 (fun _ => true) false m 262 c = some (.agg [.lit (.int .i64 q.1), .lit (.int .i64 q.2.1), .lit (.int .u64 q.2.2)], p)) : c = [.int .i64 q.1, .int .i64 q.2.1, .int .u64 q.2.2] := by
  obtain ⟨y0, y1, y2, n, hx, hl, h0, h1, h2⟩ := Deep.trod_struct3 Tryz.underlying262 h
  simp only [Prod.mk.injEq, DataW.agg.injEq, List.cons.injEq, and_true] at hx
  obtain ⟨⟨e0, e1, e2⟩, _⟩ := hx
  obtain ⟨z0, c0, r0, _⟩ := DataW.trod_int Tryz.underlying3 h0
  obtain ⟨z1, c1, r1, _⟩ := DataW.trod_int Tryz.underlying3 h1
  obtain ⟨z2, c2, r2, _⟩ := DataW.trod_int Tryz.underlying74 h2
  rw [r0] at e0; rw [r1] at e1; rw [r2] at e2
  simp only [DataW.lit.injEq, Lit.int.injEq, true_and] at e0 e1 e2
  have a0 := take1 c0
  have a1 := take1 c1
  have a2 := take1 c2
  have hl3 : c.length = 3 := hl.trans (by kernel_rfl)
  rw [← e0] at a0; rw [← e1] at a1; rw [← e2] at a2
  match c, hl3 with
  | [x, y, z], _ =>
    have b0 : some x = some (Value.int .i64 (q.1 : Int)) := a0
    have b1 : some y = some (Value.int .i64 (q.2.1 : Int)) := a1
    have b2 : some z = some (Value.int .u64 q.2.2) := a2
    rw [Option.some.inj b0, Option.some.inj b1, Option.some.inj b2]
theorem fixVar_of {W : World} {g' : Nat} {t' : TypeId} {cs : Array Value} {fuel : Nat} {p : List MemPlace} (hg' : Tryz.prog.globalNamed "tinyos/machine.fixed" = some g') (ht' : (Tryz.prog.globals[g']?).map (·.type) = some t') (hvar : W.var? Tryz.prog "tinyos/machine.fixed" = some cs) (hd : DataW.trod (fun _ => ()) Tryz.prog W 0 (fun _ => true) false fuel t' cs.toList = some (Rows.laid_tinyos_machine_fixed, p)) : FixVar W := by
  obtain rfl := Option.some.inj (fixName.symm.trans hg')
  obtain rfl := Option.some.inj (fixType.symm.trans ht')
  have hcell := fun i => World.var?_cell fixName hvar i
  rw [fixData] at hd
  obtain ⟨xs, m, _, hx, hl, hxl, hel⟩ := DataW.trod_array Tryz.underlying263 hd
  have hxm : xs.map (·.1) = fixedL.map fun q => (DataW.agg [.lit (.int .i64 q.1), .lit (.int .i64 q.2.1), .lit (.int .u64 q.2.2)] : DataW Unit) := by
    have := congrArg Prod.fst hx
    simpa using this.symm
  have hch : ∀ i, i < 8 → ∀ q, fixedL[i]? = some q → (cs.toList.drop (i * 3)).take 3 = [.int .i64 q.1, .int .i64 q.2.1, .int .u64 q.2.2] := by
    intro i hi q hq
    have h1 := hel i hi
    rw [show Tryz.prog.cellsOf 262 = 3 from by kernel_rfl] at h1
    have h2 := congrArg (·[i]?) hxm
    simp only [List.getElem?_map, hq, Option.map_some] at h2
    cases hxi : xs[i]? with
    | none => rw [hxi] at h2; cases h2
    | some y =>
      rw [hxi] at h1 h2
      simp only [Option.map_some, Option.some.injEq] at h2
      obtain ⟨d, pp⟩ := y
      simp only at h2
      subst h2
      exact field_cells h1
  have hlt : 1 < W.heap.size := by
    have h0 := hcell 0
    have h1 := hch 0 (by omega) _ rfl
    have h2 := congrArg (·[0]?) h1
    simp only [List.getElem?_take, List.getElem?_drop, Nat.zero_mul, Nat.zero_add, if_pos (show 0 < 3 by omega), Array.getElem?_toList] at h2
    rw [h2] at h0
    have := World.block_lt_of_cell? _ _ h0
    simpa using this
  refine ⟨fun j v hv => ?_, hlt⟩
  rw [Nat.zero_add, hcell j, ← hv]
  have hj : j < 24 := by have := (List.getElem?_eq_some_iff.1 hv).1; simpa [fixedV, fixedL] using this
  have e : j = (j / 3) * 3 + j % 3 := by omega
  have hf := flat_at (fun q : Nat × Nat × Int => [Value.int .i64 q.1, .int .i64 q.2.1, .int .u64 q.2.2]) 3 fixedL (fun _ _ => rfl) (j / 3) (j % 3) (by omega)
  rw [← e] at hf
  show cs[j]? = (fixedL.flatMap _)[j]?
  rw [hf]
  have hq : j / 3 < fixedL.length := by show j / 3 < 8; omega
  rw [List.getElem?_eq_getElem hq]
  have h1 := congrArg (·[j % 3]?) (hch (j / 3) (by omega) _ (List.getElem?_eq_getElem hq))
  simp only [List.getElem?_take, List.getElem?_drop, if_pos (show j % 3 < 3 by omega), ← e, Array.getElem?_toList] at h1
  rw [h1]
  rfl
/-! ### bytealg.MaxLen holds an integer -/
theorem maxZero : ((begin Tryz.prog (fun _ _ => 0) default).world.heap[2]?).bind Obj.row? = some (#[.int .i64 0], 3) := by kernel_rfl
theorem intCells : Tryz.prog.cellTypes Tryz.prog.depth 3 = some [3] := by kernel_rfl
theorem maxVar_of {W : World} (h : W.ShapedOpen Tryz.prog) : MaxVar W := by
  obtain ⟨cs, hh, hs, hr⟩ := h.1 _ _ _ (of_decide_eq_true (by kernel_rfl)) maxZero
  obtain ⟨ts, hts, _, hall⟩ := hr (by kernel_rfl)
  rw [intCells] at hts
  cases hts
  have h1 : 0 < cs.size := by rw [hs]; decide
  obtain ⟨u, hu, hok⟩ := hall 0 cs[0] (by simp [h1])
  have : u = 3 := by simpa using hu.symm
  subst this
  have hc : W.cell? ⟨2, 0, none⟩ = some cs[0] := by simp [World.cell?, hh, h1]
  generalize cs[0] = v at hok hc
  cases v with
  | int k n =>
    simp only [Cell.ok, Tryz.underlying3] at hok
    obtain ⟨rfl, _⟩ := hok
    exact ⟨n, hc⟩
  | _ => simp [Cell.ok, Tryz.underlying3] at hok
/-- A variable's cells, laid. -/
def putCells (cs : Array Value) : Obj → Obj
  | .cells _ t frozen => .cells cs t frozen
  | o => o
def rangesV : List Value := [128, 191, 160, 191, 128, 159, 144, 191, 128, 143, 0, 0, 0, 0, 0, 0, 0, 0, 0, 0, 0, 0, 0, 0, 0, 0, 0, 0, 0, 0, 0, 0].map (Value.int .u8)
def firstV : List Value := Go.Pinned.utf8FirstZ.map fun (n : Nat) => Value.int .u8 (n : Int)
end Go.Proofs.YtkcjafnaephjiaaGreatDoor

/- The law Boots: Boot of any limits and any files answers as the document says: the error; behind it the processes, the files, what is used, an empty console; the files' bytes are as they were. No condition; the card ties errors.errorType, machine.fixed and the tables of unicode/utf8 to the program's text. -/
namespace Go.Proofs.YtkcjafnaephjiaaGreatDoor.boots
open Go.ChangeShapes Go.WideShapes Go.ChangeAt Go.RowKit
set_option maxRecDepth 100000

theorem laidParts {W : World} (h : laidMetH Tryz.prog Rows.bootsRow.laid W) : FixVar W ∧ ErrVar W := by
  have h' : laidMet Tryz.prog [("unicode/utf8.acceptRanges", Rows.laid_unicode_utf8_acceptRanges), ("tinyos/machine.fixed", Rows.laid_tinyos_machine_fixed), ("unicode/utf8.first", Rows.laid_unicode_utf8_first)] W ∧ handlesMet Tryz.prog [("errors.errorType", Rows.laid_errors_errorType)] W := h
  obtain ⟨ps, ⟨_, _, _, _, _, _, _, _, _, _, hrest, _⟩, _⟩ := h'.1
  obtain ⟨g', t', cs, fuel, p, q, hg', ht', hvar, hd, _, _⟩ := hrest
  exact ⟨fixVar_of hg' ht' hvar hd, errVar_of (by simp) h'.2⟩

theorem contract (H : Type) (enc : TypeId × Value → H) (W : World) (base : Nat) (args : Array Value) (ds gs : List (DataW H)) (before : List MemPlace)
    (hval : ∀ (j : Nat) t v, Tryz.f3.params[j]? = some t → args[j]? = some v → Value.okWide Tryz.prog W .any base t v)
    (hW : DataW.Whole enc Tryz.prog Tryz.f3.params.toList Rows.bootsSpec.vars false W args.toList ds gs before)
    (hsz : (DataW.weightsEach Tryz.prog (Tryz.f3.params.toList ++ (OpenSpec.ofChange Rows.bootsSpec).bare.plain.varTypes Tryz.prog) (ds ++ gs)).all (· ≤ reachBytes) = true) (hL : laidMetH Tryz.prog Rows.bootsRow.laid W) (hS : W.ShapedOpen Tryz.prog) :
    Calls Tryz.prog 3 args W fun e W' => ∃ v, e = .returned v ∧ Rows.bootsSpec.post enc Tryz.prog Tryz.f3 false true false false W args v W' := by
  have hW' := hW
  obtain ⟨p, q, hA0, hV, rfl, hfz, hnd⟩ := hW
  have hA : DataW.TrodAll enc Tryz.prog W 0 (fun _ => true) true Tryz.f3.params.toList args.toList ds p := hA0
  rw [Tryz.params3] at hA hval hsz
  obtain ⟨v0, d0, rfl, rfl, h0⟩ := trodAll_one hA
  obtain ⟨rfl, rfl⟩ := trodVars_none hV
  obtain ⟨fuel, hf⟩ := h0
  obtain ⟨l, pt, F, cap, rfl, h1, h2, h3⟩ := open_setting (hval 0 26 v0 rfl rfl) hf (fun n hn => by
    have := List.all_eq_true.1 hsz n (DataW.weights_mem_each (j := 0) rfl rfl n hn)
    simpa using this)
  have hr : reachBytes ≤ 140737488351232 := by decide
  obtain ⟨hfix, herr⟩ := laidParts hL
  refine (boots_any l F pt cap W h2 (Nat.le_trans h1 hr) (fun f hf => ⟨(h3 f hf).bs, Nat.le_trans (h3 f hf).len hr, Nat.le_trans (h3 f hf).path hr, (h3 f hf).cap, (h3 f hf).lt⟩) (maxVar_of hS) hfix herr).mono fun e W' ⟨he, hb⟩ => ?_
  subst he
  exact ⟨_, rfl, law_post hW' rfl (by kernel_rfl) (by rw [Tryz.params3]; intro t ht; simp at ht; rcases ht with rfl; exact ⟨by kernel_rfl, of_decide_eq_true (by kernel_rfl)⟩) rfl hb⟩

/-- A world for the witness: the settled one, the row's variables laid. -/
noncomputable def laidWorld (os : Os) : World :=
  { World.holding Tryz.prog os ⟨#[], #[], []⟩ with heap := ((((World.holding Tryz.prog os ⟨#[], #[], []⟩).heap.modify 0 (putCells #[.iface 195 (.agg #[.pointer (some ⟨5, 40, none⟩)])])).modify 1 (putCells fixedV.toArray)).modify 4 (putCells rangesV.toArray)).modify 3 (putCells firstV.toArray) }
abbrev wArgs : Array Value := #[.agg #[.int .i64 0, .int .i64 0, .int .i64 0, .int .i64 0, .int .i64 0, .slice none 0 0]]
theorem laid_met (os : Os) : laidMetH Tryz.prog Rows.bootsRow.laid ((laidWorld os).forCall (fun _ _ => 0) ⟨#[], wArgs, []⟩).memory :=
  laidMetH_of_parts (laidMet_of_run' 8 (by kernel_rfl) (by kernel_rfl)) (by kernel_rfl)
theorem reads (os : Os) {H : Type} (enc : TypeId × Value → H) : ∃ places, DataW.whole enc Tryz.prog ((laidWorld os).forCall (fun _ _ => 0) ⟨#[], wArgs, []⟩).memory Tryz.f3.params.toList Rows.bootsSpec.vars false wArgs.toList 8 =
    some ([.agg [.agg [.lit (.int .i64 0), .lit (.int .i64 0), .lit (.int .i64 0), .lit (.int .i64 0), .lit (.int .i64 0)], .nil]], [], places) :=
  ⟨[], by kernel_rfl⟩

theorem lifted (os : Os) (started : os.Started) (H : Type) (enc : TypeId × Value → H) (F : Stop.Interp) :
    ReturnsInHanded {} Tryz.checked os 3 .any ((OpenSpec.ofChange Rows.bootsSpec).preRow enc Tryz.prog Tryz.f3 Rows.bootsRow.domain false Rows.bootsRow.laid) (((OpenSpec.ofChange Rows.bootsSpec).at F).post enc Tryz.prog Tryz.f3 false true false false) := by
  obtain ⟨places, hx⟩ := reads os enc
  refine returnsInHanded_of_row (C := Tryz.checked) (s := OpenSpec.ofChange Rows.bootsSpec) own started (by kernel_rfl) Tryz.func3
    (witness_row_at (enc := enc) (C := Tryz.checked) false (laidWorld os) wArgs rfl (by kernel_rfl) (by kernel_rfl) (by kernel_rfl)
      (OpenSpec.preRow_of_cond 8 hx (by kernel_rfl) (fun k hk => by cases hk) (by kernel_rfl) (laid_met os))) ?_
  intro W base args ds gs before hval hW _ _ hsz hL hS _
  exact contract H enc W base args ds gs before hval hW hsz hL hS

theorem said : Rows.BootsSaid :=
  OpenClaim.holds_of_cond 3 Tryz.f3 rfl rfl rfl rfl rfl rfl rfl ⟨rfl, rfl, rfl, rfl, rfl⟩ rfl rfl rfl rfl rfl (by kernel_rfl) Tryz.func3 (by kernel_rfl)
    (of_decide_eq_true (by kernel_rfl)) (by unfold Func.isWrapper; rw [if_neg (of_decide_eq_false (by kernel_rfl))]; exact ⟨rfl, rfl⟩)
    (fun os started H enc _ F => by rw [OpenClaim.pre_eq_preRow]; exact lifted os started H enc F)

theorem plain (f : FuncId) (fn : Func) (hf : Tryz.pinned.checked.prog.funcNamed "tinyos/tinyoslaw.Boots" = some f) (hfn : Tryz.pinned.checked.prog.funcs[f]? = some fn) :
    true = Tryz.pinned.checked.prog.looks [] ∧ ∀ (j : Nat) t, fn.params[j]? = some t → Tryz.pinned.checked.prog.wantsStandIn t = false := by
  obtain rfl : f = 3 := Option.some.inj ((show Tryz.prog.funcNamed "tinyos/tinyoslaw.Boots" = some 3 by kernel_rfl).symm.trans hf) |>.symm
  obtain rfl : fn = Tryz.f3 := (Option.some.inj (Tryz.func3.symm.trans hfn)).symm
  refine ⟨by kernel_rfl, fun j t ht => ?_⟩
  rw [Tryz.params3] at ht
  have hm := Array.mem_of_getElem? ht
  simp at hm
  rcases hm with rfl
  exact (show Tryz.prog.wantsStandIn 26 = false by kernel_rfl)

theorem card : Rows.BootsCardSaid :=
  Claim7.holds_tied_plain_at .later [] _ _ _ _ said (fun _ h => by cases h) (by kernel_rfl) (fun _ h => by cases h) boots_row_tie rfl ⟨rfl, rfl⟩ (by kernel_rfl) rfl plain (by kernel_rfl)
#print axioms card
end Go.Proofs.YtkcjafnaephjiaaGreatDoor.boots
