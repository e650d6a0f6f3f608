/- The law's small, with no script. -/
import Derived.Test.YtkcjafnaephjiaaGreatDoorPart39
import Derived.Test.YtkcjafnaephjiaaGreatDoorPart12
set_option linter.unusedVariables false
set_option linter.unusedSimpArgs false
namespace Go.Proofs.YtkcjafnaephjiaaGreatDoor
open Go.RowKit Go.Maps Go.Shelf
set_option maxRecDepth 100000

def sizeF (F : List FileA) : Nat := (F.map fun f => f.path.size + f.byt.length).sum
def smallF (F : List FileA) : Bool := decide (F.length ≤ 100 ∧ sizeF F ≤ 200000)
theorem sizeF_take {F : List FileA} {k : Nat} {f : FileA} (h : F[k]? = some f) : sizeF (F.take (k + 1)) = sizeF (F.take k) + (f.path.size + f.byt.length) := by
  unfold sizeF
  rw [List.take_add_one, h]
  simp
set_option maxHeartbeats 4000000 in
theorem small_any (a b c d e : Int) (F : List FileA) (p : Option Addr) (cap : Nat) (w : World) (hr : ∀ (i : Nat) (f : FileA), F[i]? = some f → ∃ g o, p = some ⟨g, o, none⟩ ∧ w.rangeAt g (o + i * 3) [.string f.path, .bool f.dir, .slice f.p f.byt.length f.cap]) (hl : F.length ≤ 140737488351232) (hs : ∀ f ∈ F, f.path.size ≤ 140737488351232 ∧ f.byt.length ≤ 140737488351232) :
    Calls Tryz.prog 5 #[.agg #[.int .i64 a, .int .i64 b, .int .i64 c, .int .i64 d, .int .i64 e, .slice p F.length cap], .slice none 0 0] w fun e w' => e = .returned (.bool (smallF F)) ∧ Bel w w' := by
  have HR := Lib.hid hr
  have HS := Lib.hid hs
  clear hr hs
  by_cases h1 : F.length ≤ 100
  · have hd : decide ((100 : Int) < F.length) = false := by simp; omega
    go_enter Tryz.func5, Tryz.ntmps5
    have BX := Blk.new w [.int .i64 a, .int .i64 b, .int .i64 c, .int .i64 d, .int .i64 e, .slice p F.length cap] 26
    have kx : Bel w (w.alloc (.cells #[.int .i64 a, .int .i64 b, .int .i64 c, .int .i64 d, .int .i64 e, .slice p F.length cap] 26)) := Bel.start _ _
    change Blk (w.alloc (.cells #[.int .i64 a, .int .i64 b, .int .i64 c, .int .i64 d, .int .i64 e, .slice p F.length cap] 26)) w.heap.size _ _ at BX
    go_upto_region 3 with fail
    generalize w.alloc (.cells #[.int .i64 a, .int .i64 b, .int .i64 c, .int .i64 d, .int .i64 e, .slice p F.length cap] 26) = w2 at *
    generalize hxb : w.heap.size = xb at *
    have x5 : w2.cell? ⟨xb, 5, none⟩ = some (.slice p F.length cap) := BX.cell 5
    have HK : Hid (Bel w w2) := Lib.hid kx
    clear kx BX
    go_wp2_with fail
    go_loopw [5, 6] (fun n i wr => ∃ k q : Nat, k ≤ F.length ∧ i = .int .i64 k ∧ n = .int .i64 (sizeF (F.take k) : Nat) ∧ sizeF (F.take k) ≤ 281474976702464 * k ∧ wr = w2.drewN q) (fun _ i _ => F.length - (intOf i).toNat)
    case atStart => exact ⟨0, 0, Nat.zero_le _, rfl, rfl, Nat.le_refl _, rfl⟩
    case round =>
      obtain ⟨k, q, hk, rfl, rfl, hb, rfl⟩ := hrel
      by_cases hlt : k < F.length
      · have hf := List.getElem?_eq_getElem hlt
        obtain ⟨f, hff⟩ : ∃ f, F[k] = f := ⟨_, rfl⟩
        rw [hff] at hf
        obtain ⟨g, o, rfl, hran⟩ := HR.out k f hf
        obtain ⟨hs1, hs2⟩ := HS.out f (List.mem_iff_getElem?.2 ⟨k, hf⟩)
        have r0 : w2.cell? ⟨g, o + k * 3, none⟩ = some (.string f.path) := cell_bel HK.out (hran 0 _ rfl)
        have r2 : w2.cell? ⟨g, o + k * 3 + 2, none⟩ = some (.slice f.p f.byt.length f.cap) := cell_bel HK.out (hran 2 _ rfl)
        have hst := sizeF_take hf
        have hw1 : IntKind.i64.wrap (((sizeF (F.take k) : Nat) : Int) + (f.path.size : Int)) = ((sizeF (F.take k) : Nat) : Int) + (f.path.size : Int) := by rw [IntKind.wrap_i64]; omega
        have hw2 : IntKind.i64.wrap (((sizeF (F.take k) : Nat) : Int) + (f.path.size : Int) + (f.byt.length : Int)) = ((sizeF (F.take k) : Nat) : Int) + (f.path.size : Int) + (f.byt.length : Int) := by rw [IntKind.wrap_i64]; omega
        clear hran
        go_upto_region 7 with fail
        go_quiet (fail)
        go_wp2_with fail
        go_roundw
        case rel => exact ⟨k + 1, q + nq, by omega, by go_num, by rw [hst]; go_num, by omega, by simp [World.drewN_drewN]⟩
        case measure => simp [intOf] <;> omega
      · obtain rfl : k = F.length := by omega
        rw [List.take_length] at hb ⊢
        have hsm : smallF F = decide (((sizeF F : Nat) : Int) ≤ 200000) := by
          unfold smallF
          apply decide_eq_decide.2
          constructor
          · intro h; omega
          · intro h; exact ⟨h1, by omega⟩
        have HQ : Hid (Bel w (w2.drewN q)) := Lib.hid (bel_drewN HK.out q)
        go_wp2_with fail
        refine wp_loop_rounds 1 ?_
        rw [rounds_succ]
        go_wp2_with fail
        go_ret
        exact ⟨by rw [hsm]; rfl, HQ.out⟩
  · have hd : decide ((100 : Int) < F.length) = true := by simp; omega
    go_enter Tryz.func5, Tryz.ntmps5
    go_wp2_with fail
    go_ret
    refine ⟨?_, Bel.start _ _⟩
    rw [show smallF F = false from decide_eq_false fun h => h1 h.1]
    rfl
end Go.Proofs.YtkcjafnaephjiaaGreatDoor

/- The law's boot: what its first loop lays. Plain. -/
namespace Go.Proofs.YtkcjafnaephjiaaGreatDoor
open Go.RowKit Go.Maps Go.Shelf
set_option maxRecDepth 100000

/-- A row is kept when a row of another element's type grows. -/
theorem row_apart {w w' : World} {base base2 : Nat} {e e2 : TypeId} {size size2 : Nat} {v v2 : Value} {n n2 : Nat} {xs ys : List Value} (h : w.ownsRow base e size v n xs) (h2 : w.ownsRow base2 e2 size2 v2 n2 ys) (hne : e ≠ e2) (k : Keep (fun q => v2.ownBlock = some q) w w') : w'.ownsRow base e size v n xs := by
  refine ⟨h.1, ?_⟩
  rcases h.2 with h3 | ⟨g, cap, cur, rfl, h3, h4, h5⟩
  · exact .inl h3
  · have hb : Blk w g cur.toList e := h4
    refine .inr ⟨g, cap, cur, rfl, h3, (k.block g hb.lt fun hq => ?_).trans h4, h5⟩
    obtain ⟨_, c2, hb2⟩ := row_blk h2 hq
    exact hb.ne hb2 hne rfl
theorem blk_apart {w w' : World} {base2 : Nat} {e e2 : TypeId} {size2 : Nat} {v2 : Value} {n2 : Nat} {ys cs : List Value} {g : Nat} (h : Blk w g cs e) (h2 : w.ownsRow base2 e2 size2 v2 n2 ys) (hne : e ≠ e2) (k : Keep (fun q => v2.ownBlock = some q) w w') : Blk w' g cs e :=
  h.keep k fun hq => by
    obtain ⟨_, c2, hb2⟩ := row_blk h2 hq
    exact h.ne hb2 hne rfl
def FileA.cells (f : FileA) : List Value := [.string f.path, .bool f.dir, .slice f.p f.byt.length f.cap]
/-- The roomy copies. -/
structure Roomy (W : World) (base : Nat) (G : List FileA) : Prop where
  row : ∀ (i : Nat) (g : FileA), G[i]? = some g → ∃ b, g.p = some ⟨b, 0, none⟩ ∧ g.cap = g.byt.length + 2 ∧ base ≤ b ∧ Blk W b ((g.byt ++ [71, 72]).map (Value.int .u8)) 5
  dist : ∀ (i j : Nat) (g h : FileA) (b c : Nat), i < j → G[i]? = some g → G[j]? = some h → g.p = some ⟨b, 0, none⟩ → h.p = some ⟨c, 0, none⟩ → b < c
structure LoopB (w0 : World) (F : List FileA) (k : Nat) (v5 v6 v7 v8 : Value) (W : World) : Prop where
  bel : Bel w0 W
  r5 : W.ownsRow w0.heap.size 9 1 v5 k ((F.take k).map fun f => .string f.path)
  r6 : W.ownsRow w0.heap.size 4 1 v6 k ((F.take k).map fun f => .bool f.dir)
  r7 : W.ownsRow w0.heap.size 32 1 v7 k ((F.take k).map fun f => .slice f.p f.byt.length f.cap)
  r8 : ∃ G : List FileA, G.map FileA.said = (F.take k).map FileA.said ∧ W.ownsRow w0.heap.size 44 3 v8 k (G.flatMap FileA.cells) ∧ Roomy W w0.heap.size G
end Go.Proofs.YtkcjafnaephjiaaGreatDoor

/- The law's boot: what is kept within a round of its first loop. Plain. -/
namespace Go.Proofs.YtkcjafnaephjiaaGreatDoor
open Go.RowKit Go.Maps Go.Shelf
set_option maxRecDepth 100000

structure MidB (w2 : World) (fb : Nat) (f : FileA) (x5 x6 x7 : List Value) (n5 n6 n7 : Nat) (G : List FileA) (v5 v6 v7 v8 : Value) (W : World) : Prop where
  bel : Bel w2 W
  fbk : w2.heap.size ≤ fb
  fb : Blk W fb f.cells 44
  r5 : W.ownsRow w2.heap.size 9 1 v5 n5 x5
  r6 : W.ownsRow w2.heap.size 4 1 v6 n6 x6
  r7 : W.ownsRow w2.heap.size 32 1 v7 n7 x7
  r8 : W.ownsRow w2.heap.size 44 3 v8 G.length (G.flatMap FileA.cells)
  rm : Roomy W w2.heap.size G
theorem Roomy.to {W W' : World} {base : Nat} {G : List FileA} (h : Roomy W base G) (k : ∀ b cs, Blk W b cs 5 → Blk W' b cs 5) : Roomy W' base G := ⟨fun i g hg => by
  obtain ⟨b, h1, h2, h3, h4⟩ := h.row i g hg
  exact ⟨b, h1, h2, h3, k b _ h4⟩, h.dist⟩
theorem Roomy.nil (W : World) (base : Nat) : Roomy W base [] := ⟨fun i g h => (by simp at h), fun i j g h b c _ hi => (by simp at hi)⟩
variable {w2 W W' : World} {fb n5 n6 n7 : Nat} {f : FileA} {x5 x6 x7 : List Value} {G : List FileA} {v5 v6 v7 v8 : Value}
theorem MidB.to (h : MidB w2 fb f x5 x6 x7 n5 n6 n7 G v5 v6 v7 v8 W) (k : Bel W W') : MidB w2 fb f x5 x6 x7 n5 n6 n7 G v5 v6 v7 v8 W' :=
  ⟨h.bel.tr k, h.fbk, h.fb.bel k, row_bel h.r5 k, row_bel h.r6 k, row_bel h.r7 k, row_bel h.r8 k, h.rm.to fun _ _ hb => hb.bel k⟩
theorem bel_own {e : TypeId} {size n : Nat} {v : Value} {xs : List Value} (h : Bel w2 W) (hr : W.ownsRow w2.heap.size e size v n xs) (k : Keep (fun q => v.ownBlock = some q) W W') : Bel w2 W' :=
  ((Keep.of_bel (fun q => v.ownBlock = some q) h).tr k).below _ (Nat.le_refl _) fun q hq => (row_blk hr hq).1
theorem MidB.grow5 (h : MidB w2 fb f x5 x6 x7 n5 n6 n7 G v5 v6 v7 v8 W) {v' : Value} {n' : Nat} {x' : List Value} (k : Keep (fun q => v5.ownBlock = some q) W W') (r : W'.ownsRow w2.heap.size 9 1 v' n' x') : MidB w2 fb f x' x6 x7 n' n6 n7 G v' v6 v7 v8 W' :=
  ⟨bel_own h.bel h.r5 k, h.fbk, blk_apart h.fb h.r5 (by decide) k, r, row_apart h.r6 h.r5 (by decide) k, row_apart h.r7 h.r5 (by decide) k, row_apart h.r8 h.r5 (by decide) k, h.rm.to fun _ _ hb => blk_apart hb h.r5 (by decide) k⟩
theorem MidB.grow6 (h : MidB w2 fb f x5 x6 x7 n5 n6 n7 G v5 v6 v7 v8 W) {v' : Value} {n' : Nat} {x' : List Value} (k : Keep (fun q => v6.ownBlock = some q) W W') (r : W'.ownsRow w2.heap.size 4 1 v' n' x') : MidB w2 fb f x5 x' x7 n5 n' n7 G v5 v' v7 v8 W' :=
  ⟨bel_own h.bel h.r6 k, h.fbk, blk_apart h.fb h.r6 (by decide) k, row_apart h.r5 h.r6 (by decide) k, r, row_apart h.r7 h.r6 (by decide) k, row_apart h.r8 h.r6 (by decide) k, h.rm.to fun _ _ hb => blk_apart hb h.r6 (by decide) k⟩
theorem MidB.grow7 (h : MidB w2 fb f x5 x6 x7 n5 n6 n7 G v5 v6 v7 v8 W) {v' : Value} {n' : Nat} {x' : List Value} (k : Keep (fun q => v7.ownBlock = some q) W W') (r : W'.ownsRow w2.heap.size 32 1 v' n' x') : MidB w2 fb f x5 x6 x' n5 n6 n' G v5 v6 v' v8 W' :=
  ⟨bel_own h.bel h.r7 k, h.fbk, blk_apart h.fb h.r7 (by decide) k, row_apart h.r5 h.r7 (by decide) k, row_apart h.r6 h.r7 (by decide) k, r, row_apart h.r8 h.r7 (by decide) k, h.rm.to fun _ _ hb => blk_apart hb h.r7 (by decide) k⟩
theorem take_snoc_map {α β : Type} {F : List α} {k : Nat} {f : α} (hf : F[k]? = some f) (g : α → β) : (F.take k).map g ++ [g f] = (F.take (k + 1)).map g := by
  rw [List.take_add_one, hf]
  simp
theorem loop_next {F : List FileA} {k : Nat} (hf : F[k]? = some f) (h : MidB w2 fb f ((F.take k).map (fun f => .string f.path) ++ [.string f.path]) ((F.take k).map (fun f => .bool f.dir) ++ [.bool f.dir]) ((F.take k).map (fun f => .slice f.p f.byt.length f.cap) ++ [.slice f.p f.byt.length f.cap]) (k + 1) (k + 1) (k + 1) G v5 v6 v7 v8 W)
    (hG : G.map FileA.said = (F.take k).map FileA.said) (hGl : G.length = k) (g : Nat) (hg : w2.heap.size ≤ g) (hnew : ∀ (i : Nat) (g0 : FileA) (b : Nat), G[i]? = some g0 → g0.p = some ⟨b, 0, none⟩ → b < g) (hb : Blk W g ((f.byt ++ [71, 72]).map (Value.int .u8)) 5) {v' : Value} (K : Keep (fun q => v8.ownBlock = some q) W W')
    (r : W'.ownsRow w2.heap.size 44 3 v' (G.length + 1) (G.flatMap FileA.cells ++ [.string f.path, .bool f.dir, .slice (some ⟨g, 0, none⟩) f.byt.length (f.byt.length + 2)])) : LoopB w2 F (k + 1) v5 v6 v7 v' W' := by
  refine ⟨bel_own h.bel h.r8 K, ?_, ?_, ?_, G ++ [⟨f.path, f.dir, some ⟨g, 0, none⟩, f.byt.length + 2, f.byt⟩], ?_, ?_, ?_⟩
  · have := row_apart h.r5 h.r8 (by decide) K
    rwa [take_snoc_map hf (fun f => Value.string f.path)] at this
  · have := row_apart h.r6 h.r8 (by decide) K
    rwa [take_snoc_map hf (fun f => Value.bool f.dir)] at this
  · have := row_apart h.r7 h.r8 (by decide) K
    rwa [take_snoc_map hf (fun f => Value.slice f.p f.byt.length f.cap)] at this
  · rw [← take_snoc_map hf FileA.said, List.map_append, hG]
    rfl
  · rw [List.flatMap_append, ← hGl]
    simpa [FileA.cells] using r
  · have hsplit : ∀ (i : Nat) (g' : FileA), (G ++ [⟨f.path, f.dir, some ⟨g, 0, none⟩, f.byt.length + 2, f.byt⟩])[i]? = some g' → G[i]? = some g' ∧ i < G.length ∨ i = G.length ∧ g' = ⟨f.path, f.dir, some ⟨g, 0, none⟩, f.byt.length + 2, f.byt⟩ := fun i g' hi => by
      by_cases h1 : i < G.length
      · rw [List.getElem?_append_left h1] at hi
        exact .inl ⟨hi, h1⟩
      · rw [List.getElem?_append_right (by omega)] at hi
        have h2 := (List.getElem?_eq_some_iff.1 hi).1
        simp at h2
        have e : i - G.length = 0 := by omega
        rw [e] at hi
        cases hi
        exact .inr ⟨by omega, rfl⟩
    refine ⟨fun i g' hi => ?_, fun i j g1 h1 b c hij hi hj hb1 hc1 => ?_⟩
    · rcases hsplit i g' hi with ⟨h1, _⟩ | ⟨_, rfl⟩
      · obtain ⟨b, e1, e2, e3, e4⟩ := h.rm.row i g' h1
        exact ⟨b, e1, e2, e3, blk_apart e4 h.r8 (by decide) K⟩
      · exact ⟨g, rfl, rfl, hg, blk_apart hb h.r8 (by decide) K⟩
    · rcases hsplit i g1 hi with ⟨e1, _⟩ | ⟨e1, rfl⟩
      · rcases hsplit j h1 hj with ⟨e2, _⟩ | ⟨_, rfl⟩
        · exact h.rm.dist i j g1 h1 b c hij e1 e2 hb1 hc1
        · cases hc1
          exact hnew i g1 b e1 hb1
      · rcases hsplit j h1 hj with ⟨_, e2⟩ | ⟨e2, _⟩ <;> omega
/-- The copies, as Boot's list. -/
theorem flistP_of {w : World} {F G : List FileA} {v : Value} {base : Nat} (hG : G.map FileA.said = F.map FileA.said) (hl : F.length ≤ 100) (hs : ∀ f ∈ F, (∀ x ∈ f.byt, 0 ≤ x ∧ x ≤ 255) ∧ f.byt.length ≤ 200000 ∧ f.path.size ≤ 200000)
    (hr : w.ownsRow base 44 3 v G.length (G.flatMap FileA.cells)) (hm : Roomy w base G) : FListP w G v := by
  have hGl : G.length = F.length := by have := congrArg List.length hG; simpa using this
  have hmem : ∀ g ∈ G, ∃ f ∈ F, g.said = f.said := fun g hg => by
    have h1 : g.said ∈ G.map FileA.said := List.mem_map_of_mem hg
    rw [hG] at h1
    obtain ⟨f, hf, e⟩ := List.mem_map.1 h1
    exact ⟨f, hf, e.symm⟩
  obtain ⟨p, c, rfl, _, _, h3⟩ := row_slice hr
  refine ⟨by omega, ⟨p, c, rfl, fun i f hf => ?_⟩, fun f hf => ?_⟩
  · have hlt := (List.getElem?_eq_some_iff.1 hf).1
    rcases h3 with ⟨h0, _⟩ | ⟨g, rfl, _, _, hc, _⟩
    · omega
    · refine ⟨g, rfl, fun j u hj => ?_⟩
      have hj3 : j < 3 := by have := (List.getElem?_eq_some_iff.1 hj).1; simpa using this
      have hfl := flat_at FileA.cells 3 G (fun _ _ => rfl) i j hj3
      have hlen : i * 3 + j < (G.flatMap FileA.cells).length := by
        rw [flat_length FileA.cells 3 G (fun _ _ => rfl)]
        omega
      show w.cell? ⟨g, i * 3 + j, none⟩ = _
      rw [hc _ hlen, hfl, hf]
      exact hj
  · obtain ⟨f', hf', e⟩ := hmem f hf
    obtain ⟨h1, h2, h4⟩ := hs f' hf'
    have e1 : f.path = f'.path := congrArg (·.1) e
    have e2 : f.byt = f'.byt := congrArg (·.2.2) e
    obtain ⟨i, hi⟩ := List.mem_iff_getElem?.1 hf
    obtain ⟨b, k1, k2, _, k4⟩ := hm.row i f hi
    rw [e1, k1, k2]
    have hby : ∀ x ∈ f.byt, 0 ≤ x ∧ x ≤ 255 := by rw [e2]; exact h1
    refine ⟨⟨hby, fun h0 => ⟨b, 0, rfl, k4.lt, ⟨fun i hi => ?_, hby⟩⟩⟩, by omega, by rw [e2]; exact h2, by omega, fun b' o hb => ?_⟩
    · rw [Nat.zero_add, k4.cell, List.getElem?_map, List.getElem?_append_left hi]
    · cases hb
      exact k4.lt
/-- The blocks of the copies. -/
def RoomyB (G : List FileA) (q : Nat) : Prop := ∃ (i : Nat) (g : FileA), G[i]? = some g ∧ g.p = some ⟨q, 0, none⟩
theorem Roomy.blk {W : World} {base : Nat} {G : List FileA} (h : Roomy W base G) {q : Nat} (hq : RoomyB G q) : base ≤ q ∧ q < W.heap.size ∧ ∃ cs, Blk W q cs 5 := by
  obtain ⟨i, g, hi, hp⟩ := hq
  obtain ⟨b, h1, _, h3, h4⟩ := h.row i g hi
  rw [hp] at h1
  cases h1
  exact ⟨h3, h4.lt, _, h4⟩
theorem row_typed {S : Nat → Prop} {w w' : World} {base : Nat} {e : TypeId} {size : Nat} {v : Value} {n : Nat} {xs : List Value} (h : w.ownsRow base e size v n xs) (k : Keep S w w') (hs : ∀ q, S q → ∃ cs t, Blk w q cs t ∧ t ≠ e) : w'.ownsRow base e size v n xs := by
  refine ⟨h.1, ?_⟩
  rcases h.2 with h3 | ⟨g, cap, cur, rfl, h3, h4, h5⟩
  · exact .inl h3
  · have hb : Blk w g cur.toList e := h4
    refine .inr ⟨g, cap, cur, rfl, h3, (k.block g hb.lt fun hq => ?_).trans h4, h5⟩
    obtain ⟨cs, t, hb2, hne⟩ := hs g hq
    exact hb.ne hb2 (fun e => hne e.symm) rfl
/-- Rows of single cells, as the document's lists. -/
theorem list_row {w : World} {base : Nat} {e : TypeId} {v : Value} {F : List FileA} (c : FileA → Value) (h : w.ownsRow base e 1 v F.length (F.map c)) : ∃ p cp, v = .slice p F.length cp ∧ ∀ (i : Nat) (f : FileA), F[i]? = some f → ∃ g, p = some ⟨g, 0, none⟩ ∧ w.cell? ⟨g, i, none⟩ = some (c f) := by
  obtain ⟨p, cp, rfl, _, _, h3⟩ := row_slice h
  refine ⟨p, cp, rfl, fun i f hf => ?_⟩
  have hlt := (List.getElem?_eq_some_iff.1 hf).1
  rcases h3 with ⟨h0, _⟩ | ⟨g, rfl, _, _, hc, _⟩
  · omega
  · exact ⟨g, rfl, by rw [hc i (by simpa using hlt), List.getElem?_map, hf]; rfl⟩
/-- Behind k copies looked at. -/
structure LoopS (w : World) (base : Nat) (G : List FileA) (k : Nat) (W : World) : Prop where
  keep : Keep (RoomyB G) w W
  rest : ∀ (i : Nat) (g : FileA), k ≤ i → G[i]? = some g → ∃ b, g.p = some ⟨b, 0, none⟩ ∧ Blk W b ((g.byt ++ [71, 72]).map (Value.int .u8)) 5
theorem LoopS.start {w : World} {base : Nat} {G : List FileA} (h : Roomy w base G) : LoopS w base G 0 w := ⟨Keep.refl _ _, fun i g _ hi => by
  obtain ⟨b, h1, _, _, h4⟩ := h.row i g hi
  exact ⟨b, h1, h4⟩⟩
theorem LoopS.next {w W W' : World} {base : Nat} {G : List FileA} {k b : Nat} {g : FileA} (h : LoopS w base G k W) (hr : Roomy w base G) (hg : G[k]? = some g) (hp : g.p = some ⟨b, 0, none⟩) (K : Keep (fun q => q = b) W W') : LoopS w base G (k + 1) W' :=
  ⟨h.keep.tr (K.mono fun q hq => by subst hq; exact ⟨k, g, hg, hp⟩), fun i g' hi hg' => by
    obtain ⟨c, h1, h2⟩ := h.rest i g' (by omega) hg'
    exact ⟨c, h1, h2.keep K fun e => by have h3 := hr.dist k i g g' b c (by omega) hg hg' hp h1; have e : c = b := e; omega⟩⟩
end Go.Proofs.YtkcjafnaephjiaaGreatDoor
