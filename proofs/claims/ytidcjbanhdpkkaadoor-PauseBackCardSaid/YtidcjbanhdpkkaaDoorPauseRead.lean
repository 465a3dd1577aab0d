/- pause.Read of a message with Pfc. -/
import Derived.Test.YtidcjbanhdpkkaaDoorPauseWrite
import Derived.Test.YtidcjbanhdpkkaaDoorReader4
namespace Go.Proofs.YtidcjbanhdpkkaaDoor
open Go.RowKit
/-- The number of two bytes at a place. -/
def num2 (s : List UInt8) (i : Nat) : Nat := beNum ((s.drop i).take 2)
theorem num2_lt (s : List UInt8) (i : Nat) : num2 s i < 65536 := by
  have h := beNum_lt ((s.drop i).take 2)
  have hl : ((s.drop i).take 2).length ≤ 2 := by rw [List.length_take]; omega
  refine Nat.lt_of_lt_of_le h (Nat.pow_le_pow_right (n := 256) (by decide) hl)
/-- The cells of a Pause, of whose times k have been read. -/
def pfcCells (en : Nat) (s : List UInt8) (k : Nat) : List Value := .bool true :: .int .i64 (en : Int) :: (List.range 8).map (fun i => .int .i64 (if i < k then (num2 s (4 + 2 * i) : Int) else 0))
theorem pfcCells_len (en : Nat) (s : List UInt8) (k : Nat) : (pfcCells en s k).length = 10 := by simp [pfcCells]
theorem pfcCells_set (en : Nat) (s : List UInt8) (k : Nat) (hk : k < 8) : (pfcCells en s k).set (2 + k) (.int .i64 (num2 s (4 + 2 * k) : Int)) = pfcCells en s (k + 1) := by
  unfold pfcCells
  rw [show 2 + k = k + 1 + 1 by omega, List.set_cons_succ, List.set_cons_succ]
  congr 2
  apply List.ext_getElem
  · simp
  · intro i h1 h2
    simp only [List.length_map, List.length_range, List.length_set] at h1 h2
    rw [List.getElem_set]
    split
    · rename_i e
      subst e
      simp
    · simp only [List.getElem_map, List.getElem_range]
      by_cases h : i < k
      · simp [h, show i < k + 1 by omega]
      · simp [h, show ¬ i < k + 1 by omega]
theorem cells10 {w : World} {B : Nat} {x0 x1 x2 x3 x4 x5 x6 x7 x8 x9 : Value} (h : CellsAt w B [x0, x1, x2, x3, x4, x5, x6, x7, x8, x9]) :
    (w.cell? ⟨B, 0, none⟩ = some x0 ∧ w.cell? ⟨B, 1, none⟩ = some x1 ∧ w.cell? ⟨B, 2, none⟩ = some x2 ∧ w.cell? ⟨B, 3, none⟩ = some x3 ∧ w.cell? ⟨B, 4, none⟩ = some x4 ∧ w.cell? ⟨B, 5, none⟩ = some x5 ∧ w.cell? ⟨B, 6, none⟩ = some x6 ∧ w.cell? ⟨B, 7, none⟩ = some x7 ∧ w.cell? ⟨B, 8, none⟩ = some x8 ∧ w.cell? ⟨B, 9, none⟩ = some x9) ∧
    (w.frozen? ⟨B, 0, none⟩ = false ∧ w.frozen? ⟨B, 1, none⟩ = false ∧ w.frozen? ⟨B, 2, none⟩ = false ∧ w.frozen? ⟨B, 3, none⟩ = false ∧ w.frozen? ⟨B, 4, none⟩ = false ∧ w.frozen? ⟨B, 5, none⟩ = false ∧ w.frozen? ⟨B, 6, none⟩ = false ∧ w.frozen? ⟨B, 7, none⟩ = false ∧ w.frozen? ⟨B, 8, none⟩ = false ∧ w.frozen? ⟨B, 9, none⟩ = false) :=
  ⟨⟨(h 0 (by simp)).1, (h 1 (by simp)).1, (h 2 (by simp)).1, (h 3 (by simp)).1, (h 4 (by simp)).1, (h 5 (by simp)).1, (h 6 (by simp)).1, (h 7 (by simp)).1, (h 8 (by simp)).1, (h 9 (by simp)).1⟩, ⟨(h 0 (by simp)).2, (h 1 (by simp)).2, (h 2 (by simp)).2, (h 3 (by simp)).2, (h 4 (by simp)).2, (h 5 (by simp)).2, (h 6 (by simp)).2, (h 7 (by simp)).2, (h 8 (by simp)).2, (h 9 (by simp)).2⟩⟩
def zeroPause : List Value := [.bool false, .int .i64 0, .int .i64 0, .int .i64 0, .int .i64 0, .int .i64 0, .int .i64 0, .int .i64 0, .int .i64 0, .int .i64 0]
set_option maxRecDepth 100000 in
set_option maxHeartbeats 2000000 in
theorem pauseRead_pfc (s : List UInt8) (en : Nat) (hs : 20 ≤ s.length) (hs2 : s.length ≤ 9223372036854775807) (h0 : num2 s 0 = 257) (h1 : num2 s 2 = en) (hen : en ≤ 255) (hz : ∀ i (hi : i < s.length), 20 ≤ i → s[i] = 0) (w : World) :
    Calls Tryd.prog 25 #[.string ⟨s.toArray⟩] w fun e w' =>
      e = .returned (.tuple #[.agg (pfcCells en s 8).toArray, .nilIface]) ∧ Below w.heap.size w w' := by
  have H0 := Lib.hid h0
  have H1 := Lib.hid h1
  have Hz := Lib.hid hz
  clear h0 h1 hz
  have hZ := CellsAt.new (w := w) zeroPause 60
  have hsz : w.heap.size < (w.alloc (.cells #[.bool false, .int .i64 0, .int .i64 0, .int .i64 0, .int .i64 0, .int .i64 0, .int .i64 0, .int .i64 0, .int .i64 0, .int .i64 0] 60)).heap.size := by simp
  have hbz : Below w.heap.size w (w.alloc (.cells #[.bool false, .int .i64 0, .int .i64 0, .int .i64 0, .int .i64 0, .int .i64 0, .int .i64 0, .int .i64 0, .int .i64 0, .int .i64 0] 60)) := (Below.refl _ w).alloc (Nat.le_refl _) _
  have hZ' : CellsAt (w.alloc (.cells #[.bool false, .int .i64 0, .int .i64 0, .int .i64 0, .int .i64 0, .int .i64 0, .int .i64 0, .int .i64 0, .int .i64 0, .int .i64 0] 60)) w.heap.size zeroPause := hZ
  have hse : (w.alloc (.cells #[.bool false, .int .i64 0, .int .i64 0, .int .i64 0, .int .i64 0, .int .i64 0, .int .i64 0, .int .i64 0, .int .i64 0, .int .i64 0] 60)).heap.size = w.heap.size + 1 := by simp
  go_enter Tryd.func25, Tryd.ntmps25
  go_wp2_with fail
  clear hZ
  generalize w.alloc (.cells #[.bool false, .int .i64 0, .int .i64 0, .int .i64 0, .int .i64 0, .int .i64 0, .int .i64 0, .int .i64 0, .int .i64 0, .int .i64 0] 60) = W0 at *
  refine (new_any s 0 _).mono ?_
  rintro e w1 ⟨rfl, hr1, hb1, hlt1⟩
  have hA1 := hZ'.below hb1 hsz
  have b1 := hbz.trans (hb1.mono hbz.size)
  have hZ2 := CellsAt.new (w := w1) zeroPause 60
  have hZ2' : CellsAt (w1.alloc (.cells #[.bool false, .int .i64 0, .int .i64 0, .int .i64 0, .int .i64 0, .int .i64 0, .int .i64 0, .int .i64 0, .int .i64 0, .int .i64 0] 60)) w1.heap.size zeroPause := hZ2
  have hsz2 : w1.heap.size < (w1.alloc (.cells #[.bool false, .int .i64 0, .int .i64 0, .int .i64 0, .int .i64 0, .int .i64 0, .int .i64 0, .int .i64 0, .int .i64 0, .int .i64 0] 60)).heap.size := by simp
  have hse2 : (w1.alloc (.cells #[.bool false, .int .i64 0, .int .i64 0, .int .i64 0, .int .i64 0, .int .i64 0, .int .i64 0, .int .i64 0, .int .i64 0, .int .i64 0] 60)).heap.size = w1.heap.size + 1 := by simp
  have hbz2 : Below w1.heap.size w1 (w1.alloc (.cells #[.bool false, .int .i64 0, .int .i64 0, .int .i64 0, .int .i64 0, .int .i64 0, .int .i64 0, .int .i64 0, .int .i64 0, .int .i64 0] 60)) := (Below.refl _ w1).alloc (Nat.le_refl _) _
  generalize hR : W0.heap.size = R at *
  have hRlt : R < w1.heap.size := hlt1
  have hAR : w.heap.size < R := hsz
  have Hr1 := Lib.hid hr1
  have HA1 := Lib.hid hA1
  have HZ2 := Lib.hid hZ2'
  clear hZ2 hr1 hA1 hZ' hbz hb1 hZ2' hse hlt1 hsz hR
  go_wp2_with fail
  generalize w1.alloc (.cells #[.bool false, .int .i64 0, .int .i64 0, .int .i64 0, .int .i64 0, .int .i64 0, .int .i64 0, .int .i64 0, .int .i64 0, .int .i64 0] 60) = W2 at *
  have Hr2 := Lib.hid (Hr1.out.below hbz2 hRlt)
  have HA2 := Lib.hid (HA1.out.below hbz2 (by omega))
  have b2 := b1.trans (hbz2.mono b1.size)
  generalize hP : w1.heap.size = P at *
  have hP2 : P < W2.heap.size := hsz2
  have hA0 := HA2.out
  clear hse2 Hr1 HA1 hbz2 b1 hsz2 hP
  refine (num_ok Hr2.out 2 (by omega) (by omega) (by omega) hs2).mono ?_
  rintro e w3 ⟨rfl, hr3, hu3⟩
  rw [show beNum ((s.drop 0).take 2) = 257 from H0.out]
  have Hr3 := Lib.hid hr3
  have HA3 := Lib.hid (HA2.out.other hu3 (by omega) (by omega))
  have HP3 := Lib.hid (HZ2.out.other hu3 hP2 (by omega))
  have b3 := b2.trans (hu3.below (by omega) b2.size)
  have hP3 : P < w3.heap.size := Nat.lt_of_lt_of_le hP2 hu3.size
  clear hr3 hA0 Hr2 HA2 HZ2 b2 hP2 hu3
  go_wp2_with fail
  refine (err_any Hr3.out).mono ?_
  rintro e w4 ⟨rfl, rfl⟩
  obtain ⟨c0, z0⟩ := HP3.out 0 (by simp [zeroPause])
  have c0' : w3.cell? ⟨P, 0, none⟩ = some (.bool false) := c0
  clear c0
  go_wp2_with fail
  have Hr4 := Lib.hid (Hr3.out.other ((Upd.refl P w3).setCell 0 (.bool true)) (by omega))
  have HA4 := Lib.hid (HA3.out.other ((Upd.refl P w3).setCell 0 (.bool true)) (by omega) (by omega))
  have HP4 := Lib.hid (HP3.out.set 0 (.bool true))
  have b4 : Below w.heap.size w (w3.setCell ⟨P, 0, none⟩ (.bool true)) := b3.setCell (by show w.heap.size ≤ P; omega) _
  have hP4 : P < (w3.setCell ⟨P, 0, none⟩ (.bool true)).heap.size := by simpa [World.setCell] using hP3
  generalize w3.setCell ⟨P, 0, none⟩ (.bool true) = w4 at *
  clear Hr3 HA3 HP3 b3 hP3 c0' z0
  refine (num_ok Hr4.out 2 (by omega) (by omega) (by omega) hs2).mono ?_
  rintro e w5 ⟨rfl, hr5, hu5⟩
  rw [show beNum ((s.drop (0 + 2)).take 2) = en from H1.out]
  have Hr5 := Lib.hid hr5
  have HA5 := Lib.hid (HA4.out.other hu5 (by omega) (by omega))
  have HP5 := Lib.hid (HP4.out.other hu5 hP4 (by omega))
  have b5 := b4.trans (hu5.below (by omega) b4.size)
  have hP5 : P < w5.heap.size := Nat.lt_of_lt_of_le hP4 hu5.size
  clear hr5 Hr4 HA4 HP4 b4 hP4 hu5
  obtain ⟨c1, z1⟩ := HP5.out 1 (by simp [zeroPause])
  have c1' : w5.cell? ⟨P, 1, none⟩ = some (.int .i64 0) := c1
  clear c1
  go_wp2_with fail
  have Hr6 := Lib.hid (Hr5.out.other ((Upd.refl P w5).setCell 1 (.int .i64 (en : Int))) (by omega))
  have HA6 := Lib.hid (HA5.out.other ((Upd.refl P w5).setCell 1 (.int .i64 (en : Int))) (by omega) (by omega))
  have HP6 : Hid (CellsAt (w5.setCell ⟨P, 1, none⟩ (.int .i64 (en : Int))) P (pfcCells en s 0)) := HP5.out.set 1 (.int .i64 (en : Int))
  have b6 : Below w.heap.size w (w5.setCell ⟨P, 1, none⟩ (.int .i64 (en : Int))) := b5.setCell (by show w.heap.size ≤ P; omega) _
  have hP6 : P < (w5.setCell ⟨P, 1, none⟩ (.int .i64 (en : Int))).heap.size := by simpa [World.setCell] using hP5
  generalize w5.setCell ⟨P, 1, none⟩ (.int .i64 (en : Int)) = w6 at *
  clear Hr5 HA5 HP5 b5 hP5 c1' z1
  go_loopw [37] (fun i wr => ∃ k : Nat, k ≤ 8 ∧ i = .int .i64 k ∧ Hid (Rd wr R s (4 + 2 * k) 0 .nilIface) ∧ Hid (CellsAt wr P (pfcCells en s k)) ∧ Hid (CellsAt wr w.heap.size zeroPause) ∧ Below w.heap.size w wr ∧ P < wr.heap.size) (fun i _ => 8 - (intOf i).toNat)
  case atStart => exact ⟨0, by omega, rfl, Hr6, HP6, HA6, b6, hP6⟩
  case round =>
    obtain ⟨k, hk, rfl, HR, HP, HA, hbr, hPr⟩ := hrel
    by_cases hlt8 : k < 8
    · go_wp2_with fail
      refine (num_ok HR.out 2 (by omega) (by omega) (by omega) hs2).mono ?_
      rintro e w7 ⟨rfl, hr7, hu7⟩
      have hst := pfcCells_set en s k hlt8
      rw [show beNum ((s.drop (4 + 2 * k)).take 2) = num2 s (4 + 2 * k) from rfl]
      rw [show 4 + 2 * k + 2 = 4 + 2 * (k + 1) by omega] at hr7
      generalize num2 s (4 + 2 * k) = v at hst
      have HR7 := Lib.hid hr7
      have HP7 := Lib.hid (HP.out.other hu7 hPr (by omega))
      have HA7 := Lib.hid (HA.out.other hu7 (by omega) (by omega))
      have b7 := hbr.trans (hu7.below (by omega) hbr.size)
      have hP7 : P < w7.heap.size := Nat.lt_of_lt_of_le hPr hu7.size
      obtain ⟨c2, z2⟩ := HP7.out (2 + k) (by rw [pfcCells_len]; omega)
      generalize (pfcCells en s k)[2 + k]'(by rw [pfcCells_len]; omega) = old at c2
      have Hst := Lib.hid hst
      clear hr7 hst hu7 HR HP HA
      go_wp2_with fail
      have HP8 := HP7.out.set (2 + k) (.int .i64 (v : Int))
      rw [Hst.out] at HP8
      have HP8' := Lib.hid HP8
      clear HP8
      go_roundw
      case rel => exact ⟨k + 1, by omega, by go_num, HR7.out.other ((Upd.refl P w7).setCell (2 + k) (.int .i64 (v : Int))) (by omega), HP8', HA7.out.other ((Upd.refl P w7).setCell (2 + k) (.int .i64 (v : Int))) (by omega) (by omega), b7.setCell (by show w.heap.size ≤ P; omega) _, by simpa [World.setCell] using hP7⟩
      case measure => simp [intOf]; omega
    · have hk8 : k = 8 := by omega
      have hr8 := HR.out
      have hp8 := HP.out
      rw [hk8] at hr8 hp8
      have Hr8 := Lib.hid hr8
      have Hp8 := Lib.hid hp8
      have Hk8 := Lib.hid hk8
      clear hr8 hp8 hk8 HR HP
      go_wp2_with fail
      refine (zeros_yes Hr8.out (by omega) (by omega) (fun i hi h => Hz.out i hi (by omega))).mono ?_
      rintro e w9 ⟨rfl, hr9, hu9⟩
      have hp9 : CellsAt w9 P [.bool true, .int .i64 (en : Int), .int .i64 (num2 s 4 : Int), .int .i64 (num2 s 6 : Int), .int .i64 (num2 s 8 : Int), .int .i64 (num2 s 10 : Int), .int .i64 (num2 s 12 : Int), .int .i64 (num2 s 14 : Int), .int .i64 (num2 s 16 : Int), .int .i64 (num2 s 18 : Int)] := Hp8.out.other hu9 hPr (by omega)
      have ha9 : CellsAt w9 w.heap.size [.bool false, .int .i64 0, .int .i64 0, .int .i64 0, .int .i64 0, .int .i64 0, .int .i64 0, .int .i64 0, .int .i64 0, .int .i64 0] := HA.out.other hu9 (by omega) (by omega)
      have b9 := hbr.trans (hu9.below (by omega) hbr.size)
      have hfin : (pfcCells en s 8).toArray = #[.bool true, .int .i64 (en : Int), .int .i64 (num2 s 4 : Int), .int .i64 (num2 s 6 : Int), .int .i64 (num2 s 8 : Int), .int .i64 (num2 s 10 : Int), .int .i64 (num2 s 12 : Int), .int .i64 (num2 s 14 : Int), .int .i64 (num2 s 16 : Int), .int .i64 (num2 s 18 : Int)] := rfl
      generalize num2 s 4 = v0 at hp9 hfin
      generalize num2 s 6 = v1 at hp9 hfin
      generalize num2 s 8 = v2 at hp9 hfin
      generalize num2 s 10 = v3 at hp9 hfin
      generalize num2 s 12 = v4 at hp9 hfin
      generalize num2 s 14 = v5 at hp9 hfin
      generalize num2 s 16 = v6 at hp9 hfin
      generalize num2 s 18 = v7 at hp9 hfin
      obtain ⟨⟨p0, p1, p2, p3, p4, p5, p6, p7, p8, p9⟩, _⟩ := cells10 hp9
      obtain ⟨⟨a0, a1, a2, a3, a4, a5, a6, a7, a8, a9⟩, ⟨f0, f1, f2, f3, f4, f5, f6, f7, f8, f9⟩⟩ := cells10 ha9
      have hPA : P ≠ w.heap.size := by omega
      have Hfin := Lib.hid hfin
      clear hp9 ha9 hfin hr9 hu9 hbr Hr8 Hp8 HA
      go_wp2_with fail
      refine bodyPost_ret (v := .tuple #[.agg #[.bool true, .int .i64 (en : Int), .int .i64 (v0 : Int), .int .i64 (v1 : Int), .int .i64 (v2 : Int), .int .i64 (v3 : Int), .int .i64 (v4 : Int), .int .i64 (v5 : Int), .int .i64 (v6 : Int), .int .i64 (v7 : Int)], .nilIface]) (by simp [results, Tryd.results25, go_sem, *]) rfl ⟨by rw [Hfin.out], by go_grown⟩
end Go.Proofs.YtidcjbanhdpkkaaDoor
