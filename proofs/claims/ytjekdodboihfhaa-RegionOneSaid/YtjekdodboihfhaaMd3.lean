/- md5.Sum. -/
import Derived.Test.YtjekdodboihfhaaMd2
set_option linter.all false
namespace Go.Proofs.Ytjekdodboihfhaa
open Go.RowKit
theorem le_succ (x n : Nat) : le x (n + 1) = le x n ++ [UInt8.ofNat (x / 2 ^ (8 * n) % 256)] := by
  unfold le
  rw [List.range_succ, List.map_append]
  rfl
def comp4 (q : Q4) (j : Nat) : Nat := if j = 0 then q.a else if j = 1 then q.b else if j = 2 then q.c else q.d
def outB (q : Q4) (j : Nat) : UInt8 := UInt8.ofNat (comp4 q (j / 4) / 2 ^ (8 * (j % 4)) % 256)
def oAt (q : Q4) (i : Nat) : List UInt8 := (List.range 16).map fun j => if j < i then outB q j else 0
theorem outM_eq (q : Q4) : outM q = (List.range 16).map (outB q) := rfl
theorem oAt_all (q : Q4) : oAt q 16 = outM q := by
  rw [outM_eq]
  apply List.map_congr_left
  intro j hj
  rw [if_pos (List.mem_range.1 hj)]
theorem oAt_step (q : Q4) (i : Nat) : (oAt q i).set i (outB q i) = oAt q (i + 1) := by
  unfold oAt
  rw [map_set]
  congr 1
  funext j
  by_cases h : j = i
  · subst h; simp
  · by_cases h2 : j < i
    · rw [if_neg h, if_pos h2, if_pos (by omega)]
    · rw [if_neg h, if_neg h2, if_neg (by omega)]
theorem oAt_len (q : Q4) (i : Nat) : (oAt q i).length = 16 := by simp [oAt]
def u8C (l : List UInt8) : List Value := l.map fun c => Value.int .u8 (c.toNat : Int)
theorem u8C_set (l : List UInt8) (i : Nat) (c : UInt8) : (u8C l).set i (.int .u8 (c.toNat : Int)) = u8C (l.set i c) := by
  unfold u8C
  rw [List.map_set]
theorem runM_nil (f : Nat) (q : Q4) : runM f q [] = q := by
  cases f with
  | zero => rfl
  | succ f => show (if ([] : List UInt8) = [] then q else _) = q; rw [if_pos rfl]
theorem runM_cons (f : Nat) (q : Q4) {t : List UInt8} (h : t ≠ []) : runM (f + 1) q t = runM f (blockM q (t.take 64)) (t.drop 64) := by
  show (if t = [] then q else runM f (blockM q (t.take 64)) (t.drop 64)) = _
  rw [if_neg h]
@[reducible] def zb16 : List Value := [.int .u8 0, .int .u8 0, .int .u8 0, .int .u8 0, .int .u8 0, .int .u8 0, .int .u8 0, .int .u8 0, .int .u8 0, .int .u8 0, .int .u8 0, .int .u8 0, .int .u8 0, .int .u8 0, .int .u8 0, .int .u8 0]
@[reducible] def zb64 : List Value := [.int .u8 0, .int .u8 0, .int .u8 0, .int .u8 0, .int .u8 0, .int .u8 0, .int .u8 0, .int .u8 0, .int .u8 0, .int .u8 0, .int .u8 0, .int .u8 0, .int .u8 0, .int .u8 0, .int .u8 0, .int .u8 0, .int .u8 0, .int .u8 0, .int .u8 0, .int .u8 0, .int .u8 0, .int .u8 0, .int .u8 0, .int .u8 0, .int .u8 0, .int .u8 0, .int .u8 0, .int .u8 0, .int .u8 0, .int .u8 0, .int .u8 0, .int .u8 0, .int .u8 0, .int .u8 0, .int .u8 0, .int .u8 0, .int .u8 0, .int .u8 0, .int .u8 0, .int .u8 0, .int .u8 0, .int .u8 0, .int .u8 0, .int .u8 0, .int .u8 0, .int .u8 0, .int .u8 0, .int .u8 0, .int .u8 0, .int .u8 0, .int .u8 0, .int .u8 0, .int .u8 0, .int .u8 0, .int .u8 0, .int .u8 0, .int .u8 0, .int .u8 0, .int .u8 0, .int .u8 0, .int .u8 0, .int .u8 0, .int .u8 0, .int .u8 0]
theorem make16 (W : World) : (Instr.makeSlice 62 (.int .i64 16) (.int .i64 16)).run Try.prog W = .ok (.slice (some ⟨W.heap.size, 0, none⟩) 16 16) (W.alloc (.cells #[.int .u8 0, .int .u8 0, .int .u8 0, .int .u8 0, .int .u8 0, .int .u8 0, .int .u8 0, .int .u8 0, .int .u8 0, .int .u8 0, .int .u8 0, .int .u8 0, .int .u8 0, .int .u8 0, .int .u8 0, .int .u8 0] 5)) := by kernel_rfl
theorem make64 (W : World) : (Instr.makeSlice 62 (.int .i64 64) (.int .i64 64)).run Try.prog W = .ok (.slice (some ⟨W.heap.size, 0, none⟩) 64 64) (W.alloc (.cells #[.int .u8 0, .int .u8 0, .int .u8 0, .int .u8 0, .int .u8 0, .int .u8 0, .int .u8 0, .int .u8 0, .int .u8 0, .int .u8 0, .int .u8 0, .int .u8 0, .int .u8 0, .int .u8 0, .int .u8 0, .int .u8 0, .int .u8 0, .int .u8 0, .int .u8 0, .int .u8 0, .int .u8 0, .int .u8 0, .int .u8 0, .int .u8 0, .int .u8 0, .int .u8 0, .int .u8 0, .int .u8 0, .int .u8 0, .int .u8 0, .int .u8 0, .int .u8 0, .int .u8 0, .int .u8 0, .int .u8 0, .int .u8 0, .int .u8 0, .int .u8 0, .int .u8 0, .int .u8 0, .int .u8 0, .int .u8 0, .int .u8 0, .int .u8 0, .int .u8 0, .int .u8 0, .int .u8 0, .int .u8 0, .int .u8 0, .int .u8 0, .int .u8 0, .int .u8 0, .int .u8 0, .int .u8 0, .int .u8 0, .int .u8 0, .int .u8 0, .int .u8 0, .int .u8 0, .int .u8 0, .int .u8 0, .int .u8 0, .int .u8 0, .int .u8 0] 5)) := by kernel_rfl
theorem comp_at {B : Nat} {w0 w : World} {A : List It} {g : Nat} {q : Q4} (H : St B w0 w (bk g 64 q.vals :: A)) {d : Nat} (hd : d < 4) : w.cell? ⟨g, d, none⟩ = some (.int .u32 ((comp4 q d : Nat) : Int)) := by
  rw [H.cell d]
  match d, hd with
  | 0, _ | 1, _ | 2, _ | 3, _ => rfl
theorem conv_blk {w : World} {g : Nat} {l : List UInt8} (h : Blk w g 5 (u8C l)) : (convert 62 9 (.slice (some ⟨g, 0, none⟩) l.length l.length)).run Try.prog w = .ok (.string ⟨l.toArray⟩) w :=
  run_convert_bytes_back (P := Try.prog) _ 62 9 5 ⟨g, 0, none⟩ l.length l Try.underlying62 Try.underlying5 Try.underlying9 (fun j hj => by
    rw [Addr.add_lit, Nat.zero_add, (Blk.box h).cell j]
    simp [u8C, hj])
theorem flat_rep (z : Nat) : ((List.replicate z ([0] : List UInt8)).flatten) = List.replicate z 0 := by
  induction z with
  | zero => rfl
  | succ n ih => rw [List.replicate_succ, List.flatten_cons, ih]; rfl
theorem rep0_any (z : Nat) (hz : z ≤ 100) (w : World) : Calls Try.prog 37 #[.string ⟨#[0]⟩, .int .i64 (z : Int)] w fun e w' => e = .returned (.string ⟨(List.replicate z (0 : UInt8)).toArray⟩) ∧ Below w.heap.size w w' := by
  have := Try.strings_Repeat ⟨#[0]⟩ z w (by omega) (by show 1 * z ≤ _; omega)
  have e : ∀ z, Lib.repeatL [0] z = List.replicate z (0 : UInt8) := by
    intro z
    induction z with
    | zero => rfl
    | succ n ih => show [0] ++ Lib.repeatL [0] n = _; rw [ih]; rfl
  have e2 : Lib.repeatL (⟨#[0]⟩ : ByteArray).data.toList z = List.replicate z (0 : UInt8) := e z
  rw [e2] at this
  exact this
set_option maxRecDepth 100000 in
set_option maxHeartbeats 4000000 in
theorem sum_any (s : List UInt8) (hs : s.length ≤ 10000) (w : World) :
    Calls Try.prog 13 #[.string ⟨s.toArray⟩] w fun e w' => e = .returned (.string ⟨(sumM s).toArray⟩) ∧ Below w.heap.size w w' := by
  obtain ⟨N, hN⟩ : ∃ N, s.length = N := ⟨_, rfl⟩
  obtain ⟨z, hz⟩ : ∃ z, (120 - (N + 1) % 64) % 64 = z := ⟨_, rfl⟩
  have hz64 : z < 64 := by rw [← hz]; exact Nat.mod_lt _ (by decide)
  have hrp := fun W => rep0_any z (by omega) W
  obtain ⟨Z, hZ⟩ : ∃ Z, List.replicate z (0 : UInt8) = Z := ⟨_, rfl⟩
  have hZl : Z.length = z := by rw [← hZ]; simp
  rw [hZ] at hrp
  have HRp := fun W => Lib.hid (hrp W)
  have HZl := Lib.hid hZl
  have hzi : (120 - ((N : Int) + 1) % 64) % 64 = (z : Int) := by omega
  have hsm1 : ¬ 9223372036854775807 < N + 1 := by omega
  have hsm2 : ¬ 9223372036854775807 < N + 1 + z := by omega
  have hpad : pad s = (s ++ 128 :: Z) ++ le (N * 8) 8 := by
    unfold pad
    rw [hN, hz, hZ]
    simp
  have hsum : sumM s = outM (runM (N + 100) h0 (pad s)) := by unfold sumM; rw [hN]
  have hpl := pad_len s
  rw [hN, hz] at hpl
  have hpm := pad_mod s
  have Hpad := Lib.hid hpad
  have Hsum := Lib.hid hsum
  have Hpl := Lib.hid hpl
  have Hpm := Lib.hid hpm
  have Hz := Lib.hid hz
  have HN := Lib.hid hN
  clear hpad hsum hpl hpm hz hZ hrp
  go_enter Try.func13, Try.ntmps13
  go_upto_region 3 with (first
    | (with_reducible refine wpList_store_blk (ty := 64) (o := 0) _ h0.vals (by with_unfolding_all rfl) (by with_unfolding_all rfl) (Blk.new w z4 64) (by with_unfolding_all exact Nat.le_refl _) (by with_unfolding_all exact info64) (Q4.one _) (fun W1 hBW1 hoW1 => ?_)))
  -- WALK
  have H1 := Lib.hid (((St.init w).alloc z4 64).sets (L' := h0.vals) hBW1 hoW1)
  clear hBW1 hoW1
  go_upto_region 6 with (first
    | ((with_reducible refine (HRp _).out.mono ?_)
       rintro e w2 ⟨rfl, hb2⟩
       have H2 := Lib.hid (H1.out.ext hb2)
       clear hb2))
  obtain ⟨P, hP⟩ : ∃ P, s ++ 128 :: Z = P := ⟨_, rfl⟩
  have hPl : P.length = N + 1 + z := by
    rw [← hP, List.length_append, List.length_cons, HN.out, HZl.out]; omega
  have HPl := Lib.hid hPl
  have Hpad2 : Hid (pad s = P ++ le (N * 8) 8) := Lib.hid (by rw [Hpad.out, hP])
  simp only [hP]
  clear hPl hP Hpad
  have hle0 : P = P ++ le (N * 8) 0 := by simp [le]
  go_loopw [0, 23] (fun s0 s23 wr => ∃ i : Nat, i ≤ 8 ∧ s23 = .int .i64 (i : Int) ∧ s0 = .string ⟨(P ++ le (N * 8) i).toArray⟩ ∧ Hid (St w.heap.size w wr (bk w.heap.size 64 h0.vals :: []))) (fun _ i _ => 8 - (intOf i).toNat)
  case atStart => exact ⟨0, by omega, rfl, by rw [← hle0], H2⟩
  case round =>
    obtain ⟨i, hi0, rfl, rfl, HR⟩ := hrel
    clear hle0
    by_cases hlt : i < 8
    · have hI : (i : Int) < 8 := by omega
      have hI0 : (0 : Int) ≤ (i : Int) := by omega
      have hls := le_succ (N * 8) i
      obtain ⟨c, hc⟩ : ∃ c, UInt8.ofNat (N * 8 / 2 ^ (8 * i) % 256) = c := ⟨_, rfl⟩
      rw [hc] at hls
      have hcn : ((N : Int) * 8 / 2 ^ (8 * i) % 256) = (c.toNat : Int) := by
        rw [← hc, UInt8.toNat_ofNat']
        have e : ((N : Int) * 8 / 2 ^ (8 * i)) = ((N * 8 / 2 ^ (8 * i) : Nat) : Int) := by
          rw [Int.natCast_ediv, Int.natCast_mul, Int.natCast_pow]; rfl
        rw [e]
        omega
      have hll : (le (N * 8) i).length = i := le_len _ _
      have Hls := Lib.hid hls
      generalize le (N * 8) i = L at *
      have hsz : ¬ 9223372036854775807 < P.length + L.length + 1 := by rw [HPl.out, hll]; omega
      have hsz2 : ¬ 9223372036854775807 < P.length + (L.length + 1) := by rw [HPl.out, hll]; omega
      have hcv : ∀ w : World, ∀ t : TypeId, (convert 62 9 (.slice (some ⟨w.heap.size, 0, none⟩) 1 1)).run Try.prog (w.alloc (.cells #[.int .u8 c.toNat] t)) = .ok (.string ⟨#[c]⟩) (w.alloc (.cells #[.int .u8 c.toNat] t)) := fun w t =>
        run_convert_bytes_back (P := Try.prog) _ 62 9 5 ⟨w.heap.size, 0, none⟩ 1 [c] Try.underlying62 Try.underlying5 Try.underlying9 (fun j hj => by
          rw [Addr.add_lit, Nat.zero_add, World.cell?_alloc_mark]
          match j, hj with
          | 0, _ => rfl)
      clear hc hls hll
      have H3 := Lib.hid (HR.out.ext ((Below.refl _ _).alloc (Nat.le_refl _) (.cells #[.int .u8 c.toNat] 5)))
      clear HR
      go_wp2_with fail
      go_roundw
      case rel => exact ⟨i + 1, by omega, by go_num, by rw [Hls.out], H3⟩
      case measure => simp [intOf]; omega
    · have hi8 : i = 8 := by omega
      have hpd : P ++ le (N * 8) i = pad s := by rw [Hpad2.out, hi8]
      rw [hpd]
      have hI8 : ¬ (i : Int) < 8 := by omega
      have Hi8 := Lib.hid hi8
      clear hpd hi8 hlt
      obtain ⟨FIN, hF⟩ : ∃ FIN, runM (N + 100) h0 (pad s) = FIN := ⟨_, rfl⟩
      have HF := Lib.hid hF
      have hpl2 : (pad s).length ≤ 20000 := by rw [Hpl.out]; omega
      have hpl3 : (pad s).length ≤ 64 * (N + 100) := by rw [Hpl.out]; omega
      have hpm2 := Hpm.out
      rw [hF] at Hsum
      clear hF
      generalize pad s = T0 at *
      clear Hpad2 Hpl Hpm HPl HRp HZl Hz
      go_upto_region 10 with (fail)
      go_loopw [0] (fun s0 wr => ∃ (t : List UInt8) (q : Q4) (f : Nat), s0 = .string ⟨t.toArray⟩ ∧ t.length % 64 = 0 ∧ t.length ≤ 20000 ∧ t.length ≤ 64 * f ∧ Hid (runM f q t = FIN) ∧ Hid q.Ok ∧ Hid (St w.heap.size w wr (bk w.heap.size 64 q.vals :: []))) (fun v _ => match v with | .string b => b.size | _ => 0)
      case atStart => exact ⟨T0, h0, N + 100, rfl, hpm2, hpl2, hpl3, HF, Lib.hid h0_ok, HR⟩
      case round =>
        obtain ⟨t, q, f, rfl, ht1, ht2, ht3, Ht, Hq, HR⟩ := hrel
        by_cases ht : t = []
        · subst ht
          have hq : q = FIN := by rw [← Ht.out, runM_nil]
          rw [hq] at HR
          clear hq Ht Hq ht1 ht2 ht3
          have hmk := make16
          go_upto_region 15 with (fail)
          have H8 : Hid (St w.heap.size w _ (bk wr.heap.size 5 (u8C (oAt FIN 0)) :: bk w.heap.size 64 FIN.vals :: [])) := Lib.hid (HR.out.alloc zb16 5)
          clear HR hmk
          generalize World.alloc wr _ = w8 at *
          generalize wr.heap.size = gB at *
          go_loopw [47] (fun s47 wr => ∃ i : Nat, i ≤ 16 ∧ s47 = .int .i64 (i : Int) ∧ Hid (St w.heap.size w wr (bk gB 5 (u8C (oAt FIN i)) :: bk w.heap.size 64 FIN.vals :: []))) (fun i _ => 16 - (intOf i).toNat)
          case atStart => exact ⟨0, by omega, rfl, H8⟩
          case round =>
            obtain ⟨i, hi0, rfl, HR⟩ := hrel
            by_cases hlt : i < 16
            · have hI : (i : Int) < 16 := by omega
              have hI0 : (0 : Int) ≤ (i : Int) := by omega
              obtain ⟨k4, hk4⟩ : ∃ k4, i % 4 = k4 := ⟨_, rfl⟩
              obtain ⟨d, hd⟩ : ∃ d, i / 4 = d := ⟨_, rfl⟩
              have hk4i : (i : Int) % 4 = (k4 : Int) := by omega
              have hdi : (i : Int) / 4 = (d : Int) := by omega
              have hd4 : d < 4 := by omega
              have hd4i : (d : Int) < 4 := by omega
              obtain ⟨x, hx⟩ : ∃ x, comp4 FIN d = x := ⟨_, rfl⟩
              have hcx : wr.cell? ⟨w.heap.size, d, none⟩ = some (.int .u32 (x : Int)) := by
                rw [← hx]
                exact comp_at (HR.out.pull 1 rfl) hd4
              obtain ⟨c, hc⟩ : ∃ c, outB FIN i = c := ⟨_, rfl⟩
              have hcn : ((x : Int) / 2 ^ (8 * k4) % 256) = (c.toNat : Int) := by
                rw [← hc]
                unfold outB
                rw [UInt8.toNat_ofNat', hk4, hd, hx]
                have e : ((x : Int) / 2 ^ (8 * k4)) = ((x / 2 ^ (8 * k4) : Nat) : Int) := by
                  rw [Int.natCast_ediv, Int.natCast_pow]; rfl
                rw [e]
                omega
              have hold : wr.cell? ⟨gB, i, none⟩ = some (.int .u8 (((oAt FIN i).getD i 0).toNat : Int)) := by
                rw [HR.out.cell i]
                have : i < (oAt FIN i).length := by rw [oAt_len]; exact hlt
                simp [u8C, this]
              have hfz := HR.out.frozen i
              generalize (oAt FIN i).getD i 0 = c0 at hold
              have Hset := Lib.hid (HR.out.set i (.int .u8 (c.toNat : Int)) (by rw [u8C, List.length_map, oAt_len]; exact hlt))
              rw [u8C_set, ← hc, oAt_step] at Hset
              rw [hc] at Hset
              clear hk4 hd hx hc HR
              go_upto_region 17 with (fail)
              go_wp2_with fail
              go_roundw
              case rel => exact ⟨i + 1, by omega, by go_num, Hset⟩
              case measure => simp [intOf]; omega
            · obtain rfl : i = 16 := by omega
              rw [oAt_all, ← Hsum.out] at HR
              have hl16 := sumM_len s
              have hcv := conv_blk HR.out.head
              rw [hl16] at hcv
              obtain ⟨X, hX⟩ : ∃ X, sumM s = X := ⟨_, rfl⟩
              rw [hX] at hcv
              have HX := Lib.hid hX
              clear hX
              go_wp2_with fail
              go_ret
              exact ⟨by rw [HX.out]; rfl, HR.out.below⟩
        · have hpos : 0 < t.length := List.length_pos_iff.2 ht
          have h64 : 64 ≤ t.length := by omega
          have hb1 : (t != []) = true := by simpa using ht
          have hb2 : (t == []) = false := by simpa using ht
          have hb3 : t.isEmpty = false := by simpa using ht
          obtain ⟨f, rfl⟩ : ∃ f', f = f' + 1 := ⟨f - 1, by omega⟩
          have hr := Ht.out
          rw [runM_cons f q ht] at hr
          have Hr := Lib.hid hr
          have hln : (t.take 64).length = 64 := by rw [List.length_take]; omega
          have HB := Lib.hid (block_any q Hq.out (t.take 64) hln)
          have hok2 := blockM_ok q (t.take 64)
          generalize blockM q (t.take 64) = q2 at *
          have R0 := Lib.hid (Blk.box (HR.out.at 0 rfl)).range
          have l0 := (HR.out.at 0 rfl).lt
          have h64i : (64 : Int) ≤ (t.length : Int) := by omega
          have hdl : (t.drop 64).length = t.length - 64 := List.length_drop ..
          clear hr hpos hln
          go_upto_region 12 with (fail)
          refine wp_region_ext_tail 4 (by kernel_rfl) (by kernel_rfl) ?_
          simp only [List.take_succ_cons, List.take_zero, List.drop_succ_cons, List.drop_zero]
          repeat (go_big_quiet_step (fail))
          go_big_quiet_want
          with_reducible refine quiet_load_rng (b := ?b3) (off := ?o3) (ds := ?ds3) q.vals ?hx3 ?hr3 ?hu3 ?hd3 ?hi3 ?hk3
          case hx3 => rfl
          case hr3 => rintro _ ⟨y, rfl⟩; exact rangeAt_below R0.out y.below l0
          case hu3 => exact Try.underlying64
          case hd3 => rfl
          case hi3 => exact info64
          go_simp
          go_big_quiet_on
          repeat (go_big_quiet_step ((go_at_call 38; exact Calls.ext _ (HB.out _))))
          refine wpQuiet_nil ?_
          rintro w5 ⟨⟨_, hb5⟩, rfl⟩
          try simp only [] at *
          have H5 := Lib.hid (HR.out.ext hb5)
          have B5 := Lib.hid (H5.out.at 0 rfl)
          clear hb5 R0 l0
          go_wp2_with (first
            | (with_reducible refine wpList_store_blk (ty := 64) (o := 0) _ q2.vals (by with_unfolding_all rfl) (by with_unfolding_all rfl) B5.out (by with_unfolding_all exact Nat.le_refl _) (by with_unfolding_all exact info64) (Q4.one _) (fun W6 hBW6 hoW6 => ?_)))
          have H7 := Lib.hid (H5.out.sets (L' := q2.vals) hBW6 hoW6)
          clear hBW6 hoW6
          go_roundw
          case rel => exact ⟨t.drop 64, q2, f, rfl, by rw [hdl]; omega, by rw [hdl]; omega, by rw [hdl]; omega, Hr, Lib.hid hok2, H7⟩
          case measure =>
            show (t.drop 64).toArray.size < t.toArray.size
            simp only [List.size_toArray, hdl]
            omega
end Go.Proofs.Ytjekdodboihfhaa
