/- lacp.Read. -/
import Derived.Test.YteibhcocldihbaaDoorLacp3
set_option linter.all false
namespace Go.Proofs.YteibhcocldihbaaDoor
open Go.RowKit
theorem wpList_buildA {P : Program} {ops : Array Oper} {rest : List Oper} {d : Tmp} {t : TypeId} {parts : Array (Nat × Operand)} {t' : TypeId} {pos : String} {after : Array Edge} {a : Act} {w : World} {Q : Exit → Act → World → Prop} (vs : List (Nat × Value)) (cells : List Value)
    (hv : (parts.map fun (i, x) => (i, a.eval x)).toList = vs) (hc : P.built t vs = some cells.toArray) (h : wpList P ops Q rest (a.put (some d) (.agg cells.toArray)) w) :
    wpList P ops Q (⟨some d, .build t parts, t', pos, after, none⟩ :: rest) a w := by
  refine wpList_build rfl t parts rfl (by rw [hv, hc]; rfl) ?_
  rw [hv, hc]; exact h
theorem ret_cell2 {P : Program} {fn : Func} {R : Ending → World → Prop} {a : Act} {w : World} {p q : Tmp} {ty : TypeId} (h : fn.results = #[.cell p ty, .tmp q]) {g : Nat} (hp : a.tmps.getD p undef = .pointer (some ⟨g, 0, none⟩)) {cs : List Value} {d : TypeDesc} {v : Value} (hq : a.tmps.getD q undef = v)
    (hr : w.rangeAt g 0 cs) (hu : P.underlying ty = some d) (hd : d.isRow = true) (hi : (P.info? ty).map (·.size) = some cs.length) (hdef : a.defers = []) (hR : R (.returned (.tuple #[.agg cs.toArray, v])) w) : bodyPost P fn R .ret a w := by
  refine ⟨hdef, .tuple #[.agg cs.toArray, v], ?_, hR⟩
  have hp' : a.tmps[p]?.getD undef = .pointer (some ⟨g, 0, none⟩) := by simpa using hp
  have hq' : a.tmps[q]?.getD undef = v := by simpa using hq
  simp [results, h, hp', hq', asAddr, run_loadVar_mid w g 0 ty cs d hr hu hd hi]
theorem lac_built (a b : Pty) : Tryd.prog.built 85 [(0, .agg a.vals.toArray), (1, .agg b.vals.toArray)] = some (Lac.vals ⟨a, b, 0⟩).toArray := by
  obtain ⟨a0, ⟨a1, a2, a3, a4, a5, a6⟩, a7, a8, a9, a10⟩ := a
  obtain ⟨b0, ⟨b1, b2, b3, b4, b5, b6⟩, b7, b8, b9, b10⟩ := b
  kernel_rfl
theorem side_e {B : Nat} {w0 w : World} {A : List It} {b g : Nat} {R : RS} (H : St B w0 w (rd b R g :: A)) (kind : Nat) (hk : kind = 1 ∨ kind = 2) :
    Calls Tryd.prog 106 #[.pointer (some ⟨b, 0, none⟩), .int .i64 (kind : Int)] w fun e w' => ∃ p R', readSideM R kind = (p, R') ∧ e = .returned (.agg p.vals.toArray) ∧ RdTo B w0 b R' A w' :=
  (readSide_st H kind hk).mono fun _ _ h => ⟨_, _, rfl, h.1, h.2⟩
theorem head_e {B : Nat} {w0 w : World} {A : List It} {b g : Nat} {R : RS} (H : St B w0 w (rd b R g :: A)) (want : List UInt8) (hw : want.length ≤ 100) :
    Calls Tryd.prog 48 #[.pointer (some ⟨b, 0, none⟩), .string ⟨want.toArray⟩] w fun e w' => ∃ R', headM R want = R' ∧ e = .returned (.tuple #[]) ∧ RdTo B w0 b R' A w' :=
  (head_st H want hw).mono fun _ _ h => ⟨_, rfl, h.1, h.2⟩
@[reducible] def zLac : List Value := [.int .i64 0, .int .u8 0, .int .u8 0, .int .u8 0, .int .u8 0, .int .u8 0, .int .u8 0, .int .i64 0, .int .i64 0, .int .i64 0, .int .i64 0, .int .i64 0, .int .u8 0, .int .u8 0, .int .u8 0, .int .u8 0, .int .u8 0, .int .u8 0, .int .i64 0, .int .i64 0, .int .i64 0, .int .i64 0, .int .i64 0]
theorem zLac_one : ∀ v ∈ zLac, v.oneCell' = true := by decide
theorem lac_zero : Tryd.prog.built 85 [] = some zLac.toArray := by kernel_rfl
/-- What Read hands back of its text; g: where the error is. -/
def lacGot (s : List UInt8) (g : Nat) : Value := if (readLacM s).2.1 = true then .tuple #[.agg (readLacM s).1.vals.toArray, .nilIface] else .tuple #[.agg zLac.toArray, errV (readLacM s).2.2 g]
set_option maxRecDepth 100000 in
set_option maxHeartbeats 2000000 in
theorem lacRead_any (s : List UInt8) (hs : s.length ≤ 4611686018427387904) (w : World) :
    Calls Tryd.prog 42 #[.string ⟨s.toArray⟩] w fun e w' => ∃ b g, e = .returned (lacGot s g) ∧ St w.heap.size w w' (rd b (readLacM s).2.2 g :: []) := by
  have H1 := Lib.hid ((St.init w).alloc zLac 85)
  go_enter Tryd.func42, Tryd.ntmps42
  go_upto_region 1 with (fail)
  unfold zLac at H1
  generalize World.alloc _ _ = w1 at *
  have H1 : Hid (St w.heap.size w w1 (bk w.heap.size 85 zLac :: [])) := H1
  go_wp2_with fail
  refine (new_st H1.out s 0 (by simpa using hs)).mono ?_
  rintro e w2 ⟨rfl, h2⟩
  have H2 := Lib.hid h2
  clear h2 H1
  generalize hb : w1.heap.size = b at *
  clear hb
  go_wp2_with fail
  refine (head_e H2.out [1, 1] (by decide)).mono ?_
  rintro e w3 ⟨R3, e3, rfl, g3, h3⟩
  have E3 := Lib.hid e3
  have H3 := Lib.hid h3
  clear e3 h3 H2
  go_wp2_with fail
  refine (side_e H3.out 1 (.inl rfl)).mono ?_
  rintro e w4 ⟨x, R4, e4, rfl, g4, h4⟩
  have E4 := Lib.hid e4
  have H4 := Lib.hid h4
  clear e4 h4 H3
  go_wp2_with fail
  refine (side_e H4.out 2 (.inr rfl)).mono ?_
  rintro e w5 ⟨y, R5, e5, rfl, g5, h5⟩
  have E5 := Lib.hid e5
  have H5 := Lib.hid h5
  clear e5 h5 H4
  go_upto_region 4 with (first
    | (with_reducible refine wpList_buildA (t := 85) [(0, .agg x.vals.toArray), (1, .agg y.vals.toArray)] (Lac.vals ⟨x, y, 0⟩) (by with_unfolding_all rfl) (lac_built x y) ?_)
    | (with_reducible refine wpList_store_blk (ty := 85) (o := 0) _ (Lac.vals ⟨x, y, 0⟩) (by with_unfolding_all rfl) (by with_unfolding_all rfl) (Blk.new w5 zLac 85) (by with_unfolding_all exact Nat.le_refl _) (by with_unfolding_all exact info85) (Lac.one _) (fun W6 hBW6 hoW6 => ?_)))
  have H6 : Hid (St w.heap.size w W6 (rd b R5 g5 :: bk w5.heap.size 85 (Lac.vals ⟨x, y, 0⟩) :: bk w.heap.size 85 zLac :: [])) := Lib.hid (((H5.out.alloc zLac 85).sets (L' := Lac.vals ⟨x, y, 0⟩) hBW6 hoW6).swap)
  clear hBW6 hoW6 H5
  generalize hP : w5.heap.size = P at *
  clear hP
  go_wp2_with fail
  refine (head_e H6.out [3, 16] (by decide)).mono ?_
  rintro e w7 ⟨R7, e7, rfl, g7, h7⟩
  have E7 := Lib.hid e7
  have H7 := Lib.hid h7
  clear e7 h7 H6
  go_wp2_with fail
  refine (num_e H7.out 2 (by decide) (by decide)).mono ?_
  rintro e w8 ⟨n8, R8, e8, l8, rfl, g8, h8⟩
  have E8 := Lib.hid e8
  have H8 := Lib.hid h8
  clear e8 h8 H7
  have c8 : w8.cell? ⟨P, 22, none⟩ = some (.int .i64 0) := (H8.out.pull 1 rfl).cell 22
  have z8 := (H8.out.pull 1 rfl).frozen 22
  go_upto_region 6 with (fail)
  have H9 : Hid (St w.heap.size w _ (rd b R8 g8 :: bk P 85 (Lac.vals ⟨x, y, n8⟩) :: bk w.heap.size 85 zLac :: [])) := Lib.hid ((H8.out.pull 1 rfl).set 22 (.int .i64 (n8 : Int)) (by rw [Lac.len]; decide)).swap
  clear c8 z8 H8
  generalize World.setCell _ _ _ = w9 at *
  go_wp2_with fail
  refine (bytes_e H9.out 12 (by decide)).mono ?_
  rintro e w10 ⟨n10, R10, e10, l10, rfl, g10, h10⟩
  have E10 := Lib.hid e10
  have H10 := Lib.hid h10
  clear e10 h10 H9
  go_wp2_with fail
  refine (head_e H10.out [0, 0] (by decide)).mono ?_
  rintro e w11 ⟨R11, e11, rfl, g11, h11⟩
  have E11 := Lib.hid e11
  have H11 := Lib.hid h11
  clear e11 h11 H10
  go_wp2_with fail
  refine (bytes_e H11.out 50 (by decide)).mono ?_
  rintro e w12 ⟨n12, R12, e12, l12, rfl, g12, h12⟩
  have E12 := Lib.hid e12
  have H12 := Lib.hid h12
  clear e12 h12 H11
  go_wp2_with fail
  refine (zeros_e H12.out).mono ?_
  rintro e w13 ⟨ok, R13, e13, rfl, g13, h13⟩
  have hE : readLacM s = (⟨x, y, n8⟩, ok, R13) := by
    unfold readLacM
    simp only [E3.out, E4.out, E5.out, E7.out, E8.out, E10.out, E11.out, E12.out, e13]
  have HE := Lib.hid hE
  have H13 := Lib.hid h13
  clear e13 h13 hE H12 E3 E4 E5 E7 E8 E10 E11 E12
  have B13 := Lib.hid (H13.out.at 2 rfl)
  have R13' := Lib.hid (Blk.box (H13.out.at 1 rfl)).range
  cases ok
  · go_wp2_with (first
      | (with_reducible refine wpList_buildA (t := 85) [] zLac (by with_unfolding_all rfl) lac_zero ?_)
      | ((with_reducible refine (err_st H13.out).mono ?_)
         rintro e w14 ⟨rfl, rfl⟩)
      | (with_reducible refine wpList_store_blk (ty := 85) (o := 0) _ zLac (by with_unfolding_all rfl) (by with_unfolding_all rfl) B13.out (by with_unfolding_all exact Nat.le_refl _) (by with_unfolding_all exact info85) zLac_one (fun W15 hBW15 hoW15 => ?_)))
    have h15 := (H13.out.pull 2 rfl).sets (L' := zLac) hBW15 hoW15
    refine ret_cell2 (cs := zLac) Tryd.results42 (by rfl) (by rfl) (Blk.box h15.head).range Tryd.underlying85 rfl info85 rfl ⟨b, g13, ?_, ?_⟩
    · unfold lacGot; rw [HE.out]; rfl
    · rw [HE.out]; exact h15.tail.swap.tail
  · go_wp2_with (first
      | (with_reducible refine wpList_load_rng (ty := 85) (Lac.vals ⟨x, y, n8⟩) (by with_unfolding_all rfl) R13'.out Tryd.underlying85 (by with_unfolding_all rfl) (by with_unfolding_all exact info85) ?_)
      | (with_reducible refine wpList_store_blk (ty := 85) (o := 0) _ (Lac.vals ⟨x, y, n8⟩) (by with_unfolding_all rfl) (by with_unfolding_all rfl) B13.out (by with_unfolding_all exact Nat.le_refl _) (by with_unfolding_all exact info85) (Lac.one _) (fun W15 hBW15 hoW15 => ?_)))
    have h15 := (H13.out.pull 2 rfl).sets (L' := Lac.vals ⟨x, y, n8⟩) hBW15 hoW15
    refine ret_cell2 (cs := Lac.vals ⟨x, y, n8⟩) Tryd.results42 (by rfl) (by rfl) (Blk.box h15.head).range Tryd.underlying85 rfl info85 rfl ⟨b, g13, ?_, ?_⟩
    · unfold lacGot; rw [HE.out]; rfl
    · rw [HE.out]; exact h15.tail.swap.tail
end Go.Proofs.YteibhcocldihbaaDoor
