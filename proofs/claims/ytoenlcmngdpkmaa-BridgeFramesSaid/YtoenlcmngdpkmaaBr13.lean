/- State; served. -/
import Derived.Test.YtoenlcmngdpkmaaBr12
namespace Go.Proofs.Ytoenlcmngdpkmaa
open Go.RowKit
def PRow.at (q : PRow) (st : Int) : PRow := ⟨⟨q.p.pvid, q.p.ins, q.p.bare, st⟩, q.iv, q.bv⟩
theorem prows_set {L : List PRow} {k : Nat} (hk : k < L.length) (st : Int) : (prows L).set (k * 4 + 3) (.int .i64 st) = prows (L.set k (L[k].at st)) := by
  unfold prows
  rw [flat_set (s := 4) (by decide) (fun c hc => by obtain ⟨m, _, rfl⟩ := List.mem_map.1 hc; rfl) (by rw [List.length_map]; exact hk) (by decide), List.map_set]
  have : (L.map PRow.vals).getD k [] = L[k].vals := by
    rw [List.getD_eq_getElem?_getD, List.getElem?_map, List.getElem?_eq_getElem hk]; rfl
  rw [this]
  rfl
section
variable {B : Nat} {w0 w : World} {A : List It}
set_option maxRecDepth 100000 in
set_option maxHeartbeats 4000000 in
theorem state_st {Bp T : Nat} {now : Int} {sv tv : Value} {L : List PRow} {es : List Ent} (H : St B w0 w (brd Bp T now sv tv L es A)) (port : Nat) (hp : port < L.length) (h8 : L.length ≤ 8) (hes : es.length ≤ 32) (st : Int) (h1 : 1 ≤ st) (h3 : st ≤ 3) :
    Calls Try.prog 36 #[.pointer (some ⟨Bp, 0, none⟩), .int .i64 (port : Int), .int .i64 st] w fun e w' => e = .returned .nilIface ∧ ∃ tv', St B w0 w' (brd Bp T now sv tv' (L.set port (L[port].at st)) (if st = 1 then forgetM es port else es) A) := by
  obtain ⟨Ap, cp, e, hcap, hr⟩ := H.ports.rows
  obtain ⟨gp, e1, lgp, hk⟩ := hr (by omega)
  subst e
  subst e1
  have hO : w.ownsRow 0 44 4 (.slice (some ⟨gp, 0, none⟩) L.length cp) L.length (prows L) := H.item (k := ownI 44 4 (.slice (some ⟨gp, 0, none⟩) L.length cp) L.length (prows L)) (List.mem_of_getElem? (i := 3) rfl)
  have c3 : w.cell? ⟨gp, port * 4 + 3, none⟩ = some (.int .i64 L[port].p.state) := hk port hp 3 _ rfl
  have z3 : w.frozen? ⟨gp, port * 4 + 3, none⟩ = false := own_frozen hO _
  have cB : w.cell? ⟨Bp, 0, none⟩ = some (.slice (some ⟨gp, 0, none⟩) L.length cp) := (H.at 0 rfl).box.cell 0
  obtain ⟨Lc, hBc, hoc, hW⟩ := own_set1 hO (o := port * 4 + 3) (by omega) (.int .i64 st)
  have hB2 := hBc.set [.int .i64 st] (port * 4 + 3) (by simp; omega)
  have hO2 := hW _ hB2
  have hs1 := (H.pull 3 rfl).step (k' := ownI 44 4 (.slice (some ⟨gp, 0, none⟩) L.length cp) (L.set port (L[port].at st)).length (prows (L.set port (L[port].at st)))) (Fr.setCell gp (port * 4 + 3) (.int .i64 st) w (by exact List.mem_singleton.2 rfl)) (by
    show World.ownsRow _ 0 44 4 _ _ _
    rw [List.length_set, ← prows_set hp st]; exact hO2) (fun g hg => .inl hg)
  have hin : ∀ q ∈ L.set port (L[port].at st), q.In (w.setCell ⟨gp, port * 4 + 3, none⟩ (.int .i64 st)) := fun q hq => by
    have hsub := hs1.item (k := subP L) (List.mem_of_getElem? (i := 4) rfl)
    rcases List.mem_or_eq_of_mem_set hq with h | h
    · exact hsub q h
    · rw [h]
      have := hsub L[port] (List.getElem_mem hp)
      exact ⟨this.1, this.2⟩
  have hs2 := (hs1.pull 4 rfl).as (k' := subP (L.set port (L[port].at st))) hin (fun g hg => by
    obtain ⟨q, hq, hg⟩ := List.mem_flatMap.1 hg
    rcases List.mem_or_eq_of_mem_set hq with h | h
    · exact List.mem_flatMap.2 ⟨q, h, hg⟩
    · rw [h] at hg
      exact List.mem_flatMap.2 ⟨L[port], List.getElem_mem hp, hg⟩)
  have hs3 : St B w0 (w.setCell ⟨gp, port * 4 + 3, none⟩ (.int .i64 st)) (brd Bp T now (.slice (some ⟨gp, 0, none⟩) L.length cp) tv (L.set port (L[port].at st)) es A) := ((((hs2.pull 1 rfl).pull 4 rfl).pull 4 rfl).pull 4 rfl)
  have H3 := Lib.hid hs3
  have hpn : ¬ L.length ≤ port := by omega
  have hp0 : decide ((port : Int) < 0) = false := decide_eq_false (by omega)
  clear hs1 hs2 hs3 hin hO hBc hoc hW hB2 hO2 hk hr
  generalize L[port].p.state = s0 at *
  go_enter Try.func36, Try.ntmps36
  go_upto_region 4 with (fail)
  clear c3 z3 cB
  generalize World.setCell _ _ _ = w3 at *
  by_cases hst : st = 1
  · have cT : w3.cell? ⟨Bp, 1, none⟩ = some (.pointer (some ⟨T, 0, none⟩)) := (H3.out.at 0 rfl).box.cell 1
    subst hst
    go_wp2_with (first
      | ((with_reducible refine (forget_st ((H3.out.pull 2 rfl).pull 2 rfl) hes (port : Int)).mono ?_)
         rintro e w4 ⟨rfl, tv', h4⟩
         skip)
      )
    go_ret
    exact ⟨rfl, tv', h4.pull 2 rfl⟩
  · have hst' : (st == 1) = false := beq_eq_false_iff_ne.2 hst
    have Hst := Lib.hid hst
    clear hst
    go_wp2_with fail
    go_ret
    exact ⟨rfl, tv, by first | exact H3.out | (rw [if_neg Hst.out]; exact H3.out)⟩
end
theorem carry_ok (x : Trp) : FmOk (carryM x) := by
  have hp := pickN_lt x.vid 4 (by omega)
  refine ⟨?_, ?_, (by show (4 : Nat) ≤ 100; decide), (by show (2 : UInt8).toNat % 2 ≠ 1; decide)⟩
  · unfold carryM
    simp only []
    split <;> simp
  · intro t ht
    unfold carryM at ht
    simp only [] at ht
    split at ht
    · cases ht
    · rw [List.mem_singleton.1 ht]
      exact ⟨⟨by show (0 : Int) ≤ 3; decide, by show (3 : Int) ≤ 7; decide⟩, ⟨by show 0 ≤ (pickN x.vid 4 : Int) - 1; omega, by show (pickN x.vid 4 : Int) - 1 ≤ 4094; omega⟩⟩
theorem good_ok {L : List PRow} {P : List PSet} (hL : L.map PRow.p = P) (hg : goodL P = true) : L.length ≤ 8 ∧ (∀ q ∈ L, PortOk q.p) ∧ ∀ q ∈ L, q.p.bare.length ≤ 9223372036854775807 := by
  unfold goodL at hg
  simp only [Bool.and_eq_true, decide_eq_true_eq, List.all_eq_true] at hg
  have hm : ∀ q ∈ L, rightP q.p = true := fun q hq => hg.2 _ (by rw [← hL]; exact List.mem_map.2 ⟨q, hq, rfl⟩)
  refine ⟨by rw [← hL, List.length_map] at hg; exact hg.1, fun q hq => rightP_ok (hm q hq), fun q hq => ?_⟩
  have := (rightP_len (hm q hq)).2
  omega
end Go.Proofs.Ytoenlcmngdpkmaa
