/- passes. -/
import Derived.Test.YtoenlcmngdpkmaaBr14
namespace Go.Proofs.Ytoenlcmngdpkmaa
open Go.RowKit
def fmP : Fm := ⟨⟨4, 0, 0, 0, 0, 0⟩, ⟨2, 0, 0, 0, 0, 0⟩, [], []⟩
theorem fmP_ok : FmOk fmP := ⟨by decide, (fun _ h => by cases h), by decide, by decide⟩
def plain3 : List PSet := List.replicate 3 plainP
theorem plain_good (n : Nat) (hn : n ≤ 8) : goodL (List.replicate n plainP) = true := by
  unfold goodL
  rw [List.length_replicate, decide_eq_true hn, Bool.true_and, List.all_eq_true]
  intro p hp
  rw [List.eq_of_mem_replicate hp]
  decide
theorem pass_tab : (tabM plainP 1 fmP 5 ([], 0)).2 = 5 := by decide
theorem pass_in : (inM plain3 plainP 1 fmP 5 (tabM plainP 1 fmP 5 ([], 0)).1).map (fun x => (x.1, x.2.tags)) = [(0, []), (2, [])] := by decide
theorem pass_look : lookM (tabM plainP 1 fmP 5 ([], 0)).1 1 ⟨2, 0, 0, 0, 0, 0⟩ 5 100 = 1 := by decide
theorem pass_ok : TabOk (tabM plainP 1 fmP 5 ([], 0)).1 (tabM plainP 1 fmP 5 ([], 0)).2 := (tabM_ok KnowOk.nil plainP 1 fmP 5 (by omega) (by omega)).1
theorem fmP_vals (tv : Value) : fmP.vals tv = [.int .u8 4, .int .u8 0, .int .u8 0, .int .u8 0, .int .u8 0, .int .u8 0, .int .u8 2, .int .u8 0, .int .u8 0, .int .u8 0, .int .u8 0, .int .u8 0, tv, .int .i64 1, .int .i64 2048, .int .i64 0, .int .i64 0, .int .i64 0, .int .i64 0, .int .i64 0, .string ⟨#[]⟩] := rfl
/-- A row of frames that leave, read. -/
theorem out_rows {w : World} {ov : Value} {R : List SRow} (h : w.ownsRow 0 65 22 ov R.length (srows R)) :
    ∃ A cap, ov = .slice A R.length cap ∧ (0 < R.length → ∃ g, A = some ⟨g, 0, none⟩ ∧ g < w.heap.size ∧ ∀ k (hk : k < R.length), w.rangeAt g (k * 22) R[k].vals) := by
  obtain ⟨A, cap, e, hc, hr⟩ := own_row (C := R.map SRow.vals) h (fun c hc => by obtain ⟨v, _, rfl⟩ := List.mem_map.1 hc; rfl) (by rw [List.length_map])
  refine ⟨A, cap, e, fun h0 => ?_⟩
  obtain ⟨g, e1, _, e3, hk⟩ := hr h0
  refine ⟨g, e1, e3, fun k hk' => ?_⟩
  have := hk k (by rw [List.length_map]; exact hk')
  rw [List.getElem_map] at this
  exact this
theorem own_ports {B : Nat} {w0 w : World} {A : List It} {sv : Value} {L : List PRow} (h : St B w0 w (ownI 44 4 sv L.length (prows L) :: subP L :: A)) : SlAt w 4 sv (L.map PRow.vals) ∧ ∀ q ∈ L, q.In w :=
  ⟨(own_slat (C := L.map PRow.vals) (h.head : World.ownsRow w 0 44 4 sv L.length (prows L)) (fun c hc => by obtain ⟨v, _, rfl⟩ := List.mem_map.1 hc; rfl) (by rw [List.length_map])).1, h.tail.head⟩
theorem new_good {L : List PRow} {v : Value} {w : World} (hv : SlAt w 4 v (L.map PRow.vals)) (hq : ∀ q ∈ L, q.In w) (hg : goodL (L.map PRow.p) = true) :
    Calls Try.prog 25 #[v, .int .i64 100] w fun e w' => ∃ Bp T sv L', e = .returned (.tuple #[.pointer (some ⟨Bp, 0, none⟩), .nilIface]) ∧ L'.map PRow.p = L.map PRow.p ∧ St w.heap.size w w' (brd Bp T 0 sv (.slice none 0 0) L' [] []) := by
  have h8 := (good_ok rfl hg).1
  have hlens : ∀ q ∈ L, q.p.ins.length ≤ 9223372036854775807 ∧ q.p.bare.length ≤ 9223372036854775807 := fun q hq => by
    unfold goodL at hg
    simp only [Bool.and_eq_true, decide_eq_true_eq, List.all_eq_true] at hg
    have := rightP_len (hg.2 _ (List.mem_map.2 ⟨q, hq, rfl⟩))
    omega
  refine (new_any L v w hv hq (by omega) hlens).mono fun e w' h => ?_
  unfold NewPost at h
  rw [if_pos hg] at h
  exact h
theorem where_brd {B : Nat} {w0 w : World} {A : List It} {Bp T : Nat} {now : Int} {sv tv : Value} {L : List PRow} {es : List Ent} (H : St B w0 w (brd Bp T now sv tv L es A)) (hok : TabOk es now) (vid : Int) (a : Ad) (t : Int) (hnow : now ≤ 1099511627776) (ht0 : 0 ≤ t) (ht1 : t ≤ 1099511627776) :
    Calls Try.prog 28 #[.pointer (some ⟨Bp, 0, none⟩), .int .i64 vid, .agg a.vals.toArray, .int .i64 t] w fun e w' => e = .returned (.int .i64 (lookM es vid a t 100)) ∧ Below w.heap.size w w' :=
  where_any vid a t w (H.at 0 rfl) H.tabIn hok hnow ht0 ht1
theorem where_pass {B : Nat} {w0 w : World} {Bp T : Nat} {sv tv : Value} {L : List PRow} {es : List Ent} (H : St B w0 w (brd Bp T 5 sv tv L es [])) (hok : TabOk es 5) (hl : lookM es 1 ⟨2, 0, 0, 0, 0, 0⟩ 5 100 = 1) :
    Calls Try.prog 28 #[.pointer (some ⟨Bp, 0, none⟩), .int .i64 1, .agg #[.int .u8 2, .int .u8 0, .int .u8 0, .int .u8 0, .int .u8 0, .int .u8 0], .int .i64 5] w fun e w' => e = .returned (.int .i64 1) ∧ Below w.heap.size w w' := by
  have h := where_brd H hok 1 ⟨2, 0, 0, 0, 0, 0⟩ 5 (by omega) (by omega) (by omega)
  rw [hl] at h
  exact h
set_option maxRecDepth 100000 in
set_option maxHeartbeats 8000000 in
theorem passes_any (w : World) : Calls Try.prog 22 #[] w fun e w' => e = .returned (.bool true) ∧ Below w.heap.size w w' := by
  have HP : Hid (Calls Try.prog 35 #[.int .i64 3] w fun e w' => ∃ sv L, e = .returned sv ∧ L.map PRow.p = List.replicate 3 plainP ∧ St w.heap.size w w' [ownI 44 4 sv L.length (prows L), subP L]) := Lib.hid (plain_any 3 (by omega) w)
  go_enter Try.func22, Try.ntmps22
  go_upto_region 2 with (first
    | ((with_reducible refine HP.out.mono ?_)
       rintro e w1 ⟨sv, L, rfl, hL, h1⟩
       have HN := Lib.hid (new_good (own_ports h1).1 (own_ports h1).2 (by rw [hL]; exact plain_good 3 (by omega)))
       have HL1 := Lib.hid hL
       have HB1 := Lib.hid h1.below
       clear hL h1 HP)
    | ((with_reducible refine HN.out.mono ?_)
       rintro e w2 ⟨Bp, T, sv2, L', rfl, hL', h2⟩
       have H2 := Lib.hid h2
       have HL := Lib.hid hL'
       clear h2 hL' HN)
    )
  have hLp : L'.map PRow.p = plain3 := by rw [HL.out, HL1.out]; rfl
  have hLl : L'.length = 3 := by
    have := congrArg List.length hLp
    simpa [plain3] using this
  have hL1 : (L'[1]'(by omega)).p = plainP := by
    have h1 : (L'.map PRow.p)[1]? = plain3[1]? := by rw [hLp]
    rw [List.getElem?_map, List.getElem?_eq_getElem (by omega)] at h1
    exact Option.some.inj h1
  have hgo := good_ok hLp (plain_good 3 (by omega))
  have h3 : St w1.heap.size w1 w2 (brd Bp T 0 sv2 (.slice none 0 0) L' [] (slI 4 (.slice none 0 0) (tagv fmP.tags) :: [])) := (H2.out.add (k := slI 4 (.slice none 0 0) (tagv fmP.tags)) (Below.refl _ _) (slat_nil _ 4) (fun g hg => by cases hg)).perm (brd_under Bp T 0 sv2 (.slice none 0 0) L' [] [slI 4 (.slice none 0 0) (tagv fmP.tags)] [])
  have hI := in_st h3 1 (by omega) hgo.1 hgo.2.1 (TabOk.nil 0) (Int.le_refl _) 5 (by omega) (by omega) fmP_ok hgo.2.2
  rw [hLp, hL1, pass_tab] at hI
  have hI2 : Calls Try.prog 33 #[.pointer (some ⟨Bp, 0, none⟩), .int .i64 1, .agg #[.int .u8 4, .int .u8 0, .int .u8 0, .int .u8 0, .int .u8 0, .int .u8 0, .int .u8 2, .int .u8 0, .int .u8 0, .int .u8 0, .int .u8 0, .int .u8 0, .slice none 0 0, .int .i64 1, .int .i64 2048, .int .i64 0, .int .i64 0, .int .i64 0, .int .i64 0, .int .i64 0, .string ⟨#[]⟩], .int .i64 5] w2 fun e w' => ∃ ov tv' g c0 A0 k0, e = .returned (.tuple #[ov, .nilIface]) ∧ ov = .slice (some ⟨g, 0, none⟩) 2 c0 ∧ g < w'.heap.size ∧ w'.cell? ⟨g, 0, none⟩ = some (.int .i64 0) ∧ w'.cell? ⟨g, 22, none⟩ = some (.int .i64 2) ∧ w'.cell? ⟨g, 13, none⟩ = some (.slice A0 0 k0) ∧
      St w1.heap.size w1 w' (brd Bp T 5 sv2 tv' L' (tabM plainP 1 fmP 5 ([], 0)).1 []) := by
    refine hI.mono ?_
    rintro e w3 ⟨ov, R, tv', rfl, hR, hs⟩
    have hR2 : R.map (fun r => (r.i, r.f.tags)) = [(0, []), (2, [])] := by
      rw [← pass_in, ← hR, List.map_map]; rfl
    obtain ⟨A, c, e1, hr⟩ := out_rows (hs.head : World.ownsRow w3 0 65 22 ov R.length (srows R))
    obtain ⟨r0, r1, rfl⟩ : ∃ r0 r1, R = [r0, r1] := by
      cases R with
      | nil => simp at hR2
      | cons r0 R => cases R with
        | nil => simp at hR2
        | cons r1 R => cases R with
          | nil => exact ⟨r0, r1, rfl⟩
          | cons r2 R => simp at hR2
    simp only [List.map_cons, List.map_nil, List.cons.injEq, Prod.mk.injEq, and_true] at hR2
    obtain ⟨g, e2, lg, hk⟩ := hr (by simp)
    have k0 := hk 0 (by simp)
    have k1 := hk 1 (by simp)
    have ht : SlAt w3 4 r0.tv (tagv r0.f.tags) := hs.tail.head r0 (List.mem_cons_self ..)
    rw [hR2.1.2] at ht
    obtain ⟨A0, k0', e3, _, _⟩ := ht
    refine ⟨_, tv', g, c, A0, k0', rfl, by rw [e1, e2]; rfl, lg, ?_, ?_, ?_, brd_drop hs.tail.tail⟩
    · have := k0 0 _ rfl
      rw [show ((r0 :: [r1])[0]'(by simp)).i = 0 from hR2.1.1] at this
      exact this
    · have := k1 0 _ rfl
      rw [show ((r0 :: [r1])[1]'(by simp)).i = 2 from hR2.2.1] at this
      exact this
    · have := k0 13 _ rfl
      rw [show ((r0 :: [r1])[0]'(by simp)).tv = .slice A0 0 k0' from e3] at this
      exact this
  have HI := Lib.hid hI2
  have hlk := pass_look
  have hto := pass_ok
  rw [pass_tab] at hto
  generalize (tabM plainP 1 fmP 5 ([], 0)).1 = es at *
  clear hI hI2 h3 hgo hL1 hLl hLp
  go_wp2_with (first
    | ((with_reducible refine HI.out.mono ?_)
       rintro e w3 ⟨ov, tv', g, c0, A0, k0, rfl, rfl, lg, d0, d1, d2, h3⟩
       have H3 := Lib.hid h3
       clear h3)
    | ((with_reducible refine (where_pass H3.out hto hlk).mono ?_)
       rintro e w4 ⟨rfl, hb4⟩
       have H4 := Lib.hid (H3.out.ext hb4))
    )
  go_ret
  exact ⟨rfl, HB1.out.trans (H4.out.below.mono HB1.out.size)⟩
end Go.Proofs.Ytoenlcmngdpkmaa
