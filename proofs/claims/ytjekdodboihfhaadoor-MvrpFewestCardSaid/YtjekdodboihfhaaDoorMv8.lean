/- mvrp.Read, whatever is read. (Printed by tools/mkmv8.py.) -/
import Derived.Test.YtjekdodboihfhaaDoorMv7
set_option linter.all false
namespace Go.Proofs.YtjekdodboihfhaaDoor
open Go.RowKit
theorem St.merge {B : Nat} {w0 w : World} {A : List It} {x y z : It} (h : St B w0 w (x :: y :: A)) (hz : z.P w) (hg : ∀ g ∈ z.gs, g ∈ x.gs ∨ g ∈ y.gs) : St B w0 w (z :: A) := by
  have h1 := List.pairwise_cons.1 h.apart
  have h2 := List.pairwise_cons.1 h1.2
  refine ⟨h.below, h.base, fun k hk => ?_, fun k hk g hgk => ?_, List.pairwise_cons.2 ⟨fun k hk g hgz hgk => ?_, h2.2⟩⟩
  · rcases List.mem_cons.1 hk with rfl | hk
    · exact hz
    · exact h.own k (List.mem_cons_of_mem _ (List.mem_cons_of_mem _ hk))
  · rcases List.mem_cons.1 hk with rfl | hk
    · rcases hg g hgk with h3 | h3
      · exact h.low x (List.mem_cons_self ..) g h3
      · exact h.low y (List.mem_cons_of_mem _ (List.mem_cons_self ..)) g h3
    · exact h.low k (List.mem_cons_of_mem _ (List.mem_cons_of_mem _ hk)) g hgk
  · rcases hg g hgz with h3 | h3
    · exact h1.1 k (List.mem_cons_of_mem _ hk) g h3 hgk
    · exact h2.1 k hk g h3 hgk
def evI (r : ARow) : It := ownI 3 1 r.sv r.a.evs.length (intC r.a.evs)
/-- The rows of events of all. -/
def evsI (L : List ARow) : It where
  gs := L.flatMap fun r => (evI r).gs
  P w := ∀ r ∈ L, (evI r).P w
  lt w h g hg := by
    obtain ⟨r, hr, hgr⟩ := List.mem_flatMap.1 hg
    exact (evI r).lt w (h r hr) g hgr
  loc w W h hs hp r hr := (evI r).loc w W (fun g hg => h g (List.mem_flatMap.2 ⟨r, hr, hg⟩)) hs (hp r hr)
theorem evsI_nil (w : World) : (evsI []).P w := fun r hr => by cases hr
theorem St.evs0 {B : Nat} {w0 w : World} {A : List It} (h : St B w0 w A) : St B w0 w (evsI [] :: A) := h.add (Below.refl _ _) (evsI_nil w) (fun g hg => by cases hg)
theorem St.evs {B : Nat} {w0 w : World} {A : List It} {r : ARow} {L : List ARow} (h : St B w0 w (evI r :: evsI L :: A)) : St B w0 w (evsI (L ++ [r]) :: A) := by
  refine h.merge (fun x hx => ?_) (fun g hg => ?_)
  · rcases List.mem_append.1 hx with hx | hx
    · exact h.item (k := evsI L) (by simp) x hx
    · rw [List.mem_singleton.1 hx]; exact h.head
  · obtain ⟨x, hx, hgx⟩ := List.mem_flatMap.1 hg
    rcases List.mem_append.1 hx with hx | hx
    · exact .inr (List.mem_flatMap.2 ⟨x, hx, hgx⟩)
    · rw [List.mem_singleton.1 hx] at hgx; exact .inl hgx
theorem evs_at {w : World} {L : List ARow} (h : (evsI L).P w) : EvsAt w L := fun r hr => by
  obtain ⟨A, cap, e, hc, hs⟩ := evs_own (h r hr)
  exact ⟨A, cap, e, hc, hs⟩
def avRow (L : List ARow) : List Value := (L.map ARow.vals).flatten
theorem avRow_snoc (L : List ARow) (r : ARow) : avRow (L ++ [r]) = avRow L ++ r.vals := by simp [avRow]
theorem elemAv : ElemOk Tryd.prog 22 38 3 40 := by
  have h : (Tryd.prog.info? 38).map (fun i => (i.zero, i.size, i.bytes)) = some (some (.agg zAv.toArray), 3, 40) := by kernel_rfl
  obtain ⟨i, hi, hz, hs, hb⟩ := info_parts h
  exact ⟨Tryd.underlying22, i, _, hi, hz, hs, hb, rfl, by decide⟩
theorem ev_one {r : ARow} {w : World} (h : (evI r).P w) : ∀ v ∈ r.vals, v.oneCell' = true := by
  obtain ⟨A, cap, e, _, _⟩ := evs_own h
  exact Av.one r.a r.sv (by rw [e]; rfl)
-- The plain model, step by step.
theorem mvM_had {f : Nat} {R : RS} {l : List Av} {x : Int × Int} (h : R.err = some x) : mvM f R l = (none, R) := by
  cases f with
  | zero => rfl
  | succ f => unfold mvM; rw [h]
section
variable {f a c : Nat} {R R2 R3 : RS} {l : List Av} (he : R.err = none) (h1 : numM R 1 = (a, R2)) (h2 : numM R2 1 = (c, R3))
include he h1 h2
theorem mvM_err {x : Int × Int} (h : R3.err = some x) : mvM (f + 1) R l = (none, R3) := by
  conv => lhs; unfold mvM
  rw [he]; simp only [h1, h2]
  rw [if_pos (by rw [h]; simp)]
theorem mvM_zero {ok : Bool} {R4 : RS} (h : R3.err = none) (ha : a = 0) (hc : c = 0) (hz : zerosM R3 = (ok, R4)) : mvM (f + 1) R l = (if ok = true then some l else none, R4) := by
  conv => lhs; unfold mvM
  rw [he]; simp only [h1, h2]
  rw [if_neg (fun x => x h), if_pos ⟨ha, hc⟩, hz]
  cases ok <;> rfl
theorem mvM_kind (h : R3.err = none) (hz : ¬ (a = 0 ∧ c = 0)) (ha : a ≠ 1) : mvM (f + 1) R l = (none, failM R3 5 (R.place : Int)) := by
  conv => lhs; unfold mvM
  rw [he]; simp only [h1, h2]
  rw [if_neg (fun x => x h), if_neg hz, if_pos ha]
theorem mvM_size (h : R3.err = none) (ha : a = 1) (hc : c ≠ 2) : mvM (f + 1) R l = (none, failM R3 3 ((R.place + 1 : Nat) : Int)) := by
  conv => lhs; unfold mvM
  rw [he]; simp only [h1, h2]
  rw [if_neg (fun x => x h), if_neg (by omega), if_neg (by omega), if_pos hc]
theorem mvM_go (h : R3.err = none) (ha : a = 1) (hc : c = 2) : mvM (f + 1) R l = mvM f (attrsM 43 R.place R3 l).2 (attrsM 43 R.place R3 l).1 := by
  conv => lhs; unfold mvM
  rw [he]; simp only [h1, h2]
  rw [if_neg (fun x => x h), if_neg (by omega), if_neg (by omega), if_neg (by omega)]
end
/-- What Read hands back. -/
def MvGot (s : List UInt8) (e : Ending) (w' : World) : Prop :=
  (∀ l R, readMvM s = (some l, R) → ∃ (L : List ARow) (A : Option Addr) (cap : Nat), L.map ARow.a = l ∧ e = .returned (.tuple #[.slice A L.length cap, .nilIface]) ∧ L.length ≤ cap ∧ SlRow w' w'.heap.size 3 A (L.map ARow.vals) ∧ EvsAt w' L) ∧
  (∀ R, readMvM s = (none, R) → ∃ g, e = .returned (.tuple #[.slice none 0 0, .iface 51 (.pointer (some ⟨g, 0, none⟩))]) ∧ ∀ c p, R.err = some (c, p) → g < w'.heap.size ∧ w'.cell? ⟨g, 0, none⟩ = some (.int .i64 c))
theorem MvGot.none {s : List UInt8} {R : RS} {g : Nat} {w' : World} (h : readMvM s = (none, R)) (hg : ∀ c p, R.err = some (c, p) → g < w'.heap.size ∧ w'.cell? ⟨g, 0, none⟩ = some (.int .i64 c)) : MvGot s (.returned (.tuple #[.slice none 0 0, .iface 51 (.pointer (some ⟨g, 0, none⟩))])) w' :=
  ⟨fun l R' h' => (by rw [h] at h'; cases (Prod.mk.inj h').1), fun R' h' => by
    rw [h] at h'
    have := (Prod.mk.inj h').2
    subst this
    exact ⟨g, rfl, hg⟩⟩
theorem MvGot.some {s : List UInt8} {R : RS} {L : List ARow} {w' : World} {A : Option Addr} {cap : Nat} (h : readMvM s = (some (L.map ARow.a), R)) (h1 : L.length ≤ cap) (h2 : SlRow w' w'.heap.size 3 A (L.map ARow.vals)) (h3 : EvsAt w' L) : MvGot s (.returned (.tuple #[.slice A L.length cap, .nilIface])) w' :=
  ⟨fun l R' h' => (by
    rw [h] at h'
    have := Option.some.inj (Prod.mk.inj h').1
    exact ⟨L, A, cap, this, rfl, h1, h2, h3⟩), fun R' h' => by rw [h] at h'; cases (Prod.mk.inj h').1⟩
/-- At the head of the loop over what comes next. -/
def InnerQ (X0 : List Av × RS) (p gk : Nat) (ok : Bool) (L : List ARow) (r : ARow) (R : RS) : Prop :=
  X0 = (if ok = true then attrsM gk p (if 40 < L.length + 1 then failM R 4 (p : Int) else R) (L.map ARow.a ++ [r.a]) else (L.map ARow.a, R)) ∧ (ok = true → L.length ≤ 40 ∧ 42 ≤ gk + L.length)
theorem inner_first {X0 : List Av × RS} {p gk : Nat} {L : List ARow} {R : RS} {a : Av} {sv : Value} (hok : R.ok) (hX : X0 = attrsM (gk + 1) p R (L.map ARow.a)) (hL : R.err = none → L.length ≤ 40) (hg : 42 ≤ gk + L.length) (ha : ∀ x, (attrM R).1 = some x → a = x) :
    InnerQ X0 p gk (attrM R).1.isSome L ⟨a, sv⟩ (attrM R).2 := by
  unfold InnerQ
  rw [hX]
  conv => lhs; lhs; unfold attrsM
  cases hA : attrM R with
  | mk o R' =>
    cases o with
    | none => exact ⟨rfl, fun h => by cases h⟩
    | some x =>
      have hax : a = x := ha x (by rw [hA])
      subst hax
      refine ⟨by simp, fun _ => ⟨hL ?_, hg⟩⟩
      exact Classical.byContradiction fun hne => by rw [attrM_had hne] at hA; cases (Prod.mk.inj hA).1
theorem mvGot_err {s : List UInt8} {R : RS} {b g : Nat} {B : Nat} {w0 w : World} {A : List It} (H : St B w0 w (rd b R g :: A)) (h : readMvM s = (none, R)) : MvGot s (.returned (.tuple #[.slice none 0 0, .iface 51 (.pointer (some ⟨g, 0, none⟩))])) w :=
  MvGot.none h (fun c p he => ⟨(H.rdp.err c p he).1, (H.rdp.err c p he).2.1⟩)
set_option maxRecDepth 100000 in
set_option maxHeartbeats 4000000 in
theorem mvRead_any (s : List UInt8) (hs : s.length ≤ 1000000) (w : World) :
    Calls Tryd.prog 8 #[.string ⟨s.toArray⟩] w fun e w' => MvGot s e w' ∧ Below w.heap.size w w' := by
  have H0 := Lib.hid (St.init w)
  go_enter Tryd.func8, Tryd.ntmps8
  go_wp2_with fail
  refine (new_st H0.out s 0 (by omega)).mono ?_
  rintro e w1 ⟨rfl, h1⟩
  have H1 := Lib.hid h1
  clear h1 H0
  generalize hb : w.heap.size = b at *
  go_wp2_with fail
  refine (num_e H1.out 1 (by decide) (by decide)).mono ?_
  rintro e w2 ⟨n2, R2, e2, l2, rfl, g2, h2⟩
  have E2 := Lib.hid e2
  have H2 := Lib.hid h2
  clear e2 h2 H1
  go_upto_if 17 with (fail)
  go_cut [] (fun wx => RdTo b w b (if n2 ≠ 0 then failM R2 3 0 else R2) [] wx)
  case first =>
    by_cases h0 : n2 = 0
    · subst h0
      have hb0 : (((0 : Nat) : Int) != 0) = false := rfl
      go_wp2_with fail
      go_meet
      exact ⟨g2, H2.out⟩
    · have hb0 : ((n2 : Int) != 0) = true := by rw [bne_iff_ne]; omega
      go_wp2_with (first
        | ((with_reducible refine (fail_st H2.out 3 _).mono ?_)
           rintro e w3 ⟨rfl, h3⟩
           have H3 := Lib.hid h3
           clear h3))
      go_meet
      rw [if_pos h0]
      exact H3.out
  case rest =>
  obtain ⟨R0, hR0⟩ : ∃ R', (if n2 ≠ 0 then failM R2 3 0 else R2) = R' := ⟨_, rfl⟩
  rw [hR0] at hcut
  have HM0 : Hid (readMvM s = mvM (s.length + 1) R0 []) := Lib.hid (by
    unfold readMvM
    rw [E2.out, hR0])
  have HF0 : Hid (R0.err = none → R0.s.length - R0.at_ < s.length + 1) := Lib.hid (fun h => by
    have e2 := E2.out
    rw [← hR0] at h ⊢
    split at h
    · exact (failM_back h).elim
    · rename_i hn
      rw [if_neg hn]
      obtain ⟨c, rest, h1, h2, h3, h4⟩ := numM_back (R := newM s 0) (n := 1) ⟨Nat.zero_le _, by show 0 + s.length ≤ _; omega⟩ (by rw [e2]; exact h)
      have hR2 : R2 = (newM s 0).skip 1 := (Prod.mk.inj (e2.symm.trans h3)).2
      rw [hR2]
      show s.length - (0 + 1) < _
      omega)
  obtain ⟨g0, h0⟩ := hcut
  have H3 := Lib.hid (((h0.evs0.own0 38 3).pull 2 rfl))
  clear h0 hR0 E2 H2
  go_upto_region 6 with (fail)
  go_loopg [6, 7, 8, 9, 10, 11] (s.length + 1) (fun gk s6 _ _ _ _ _ wr => ∃ (L : List ARow) (R : RS) (g : Nat), Hid (readMvM s = mvM gk R (L.map ARow.a)) ∧ Hid (R.err = none → R.s.length - R.at_ < gk) ∧ Hid (R.err = none → L.length ≤ 40) ∧ Hid (L.length ≤ 41) ∧ Hid (St b w wr (rd b R g :: ownI 38 3 s6 L.length (avRow L) :: evsI L :: [])))
  case atStart => exact ⟨[], R0, g0, HM0, HF0, Lib.hid (fun _ => by simp), Lib.hid (by simp), H3⟩
  case round =>
    obtain ⟨L, R, g, HM, HF, HL, HL1, HS⟩ := hrel
    clear H3 HM0 HF0
    cases he : R.err with
    | some x =>
      have hM := HM.out.trans (mvM_had he)
      have HM' := Lib.hid hM
      have He := Lib.hid (errV_some he g)
      clear he hM
      go_wp2_with (first
        | ((with_reducible refine (err_st HS.out).mono ?_)
           rintro e w6 ⟨rfl, rfl⟩
           rw [He.out])
        | ((with_reducible refine (err_st HS.out).mono ?_)
           rintro e w7 ⟨rfl, rfl⟩
           rw [He.out]))
      go_ret2
      exact ⟨mvGot_err HS.out HM'.out, by rw [hb]; exact HS.out.below⟩
    | none =>
      obtain ⟨f, rfl⟩ : ∃ f, gk = f + 1 := ⟨gk - 1, by have := HF.out he; omega⟩
      have He := Lib.hid (errV_none he g)
      have Hn := Lib.hid he
      have hrok := HS.out.rdp.ok
      have Hrok := Lib.hid hrok
      have hF := HF.out he
      have HFn := Lib.hid hF
      have HLn := Lib.hid (HL.out he)
      clear he hrok hF HF HL
      go_wp2_with (first
        | ((with_reducible refine (err_st HS.out).mono ?_)
           rintro e w6 ⟨rfl, rfl⟩
           rw [He.out]))
      refine (at_st HS.out).mono ?_
      rintro e w7 ⟨rfl, h7⟩
      have H7 := Lib.hid h7
      clear h7 HS He
      go_wp2_with fail
      refine (num_e H7.out 1 (by decide) (by decide)).mono ?_
      rintro e w8 ⟨n8, R8, e8, l8, rfl, g8, h8⟩
      have E8 := Lib.hid e8
      have H8 := Lib.hid h8
      clear e8 h8 H7
      have H8ok := Lib.hid (H8.out.rdp.ok)
      go_wp2_with fail
      refine (num_e H8.out 1 (by decide) (by decide)).mono ?_
      rintro e w9 ⟨n9, R9, e9, l9, rfl, g9, h9⟩
      have E9 := Lib.hid e9
      have H9 := Lib.hid h9
      clear e9 h9 H8
      cases h9 : R9.err with
      | some x =>
        have HMx := Lib.hid (HM.out.trans (mvM_err (f := f) (l := L.map ARow.a) Hn.out E8.out E9.out h9))
        have He9 := Lib.hid (errV_some h9 g9)
        have Hx := Lib.hid h9
        clear h9
        go_wp2_with (first
          | ((with_reducible refine (err_st H9.out).mono ?_)
             rintro e w10 ⟨rfl, rfl⟩
             rw [He9.out]))
        go_roundg f
        case measure => omega
        case rel => exact ⟨L, R9, g9, Lib.hid (by rw [HMx.out]; exact (mvM_had Hx.out).symm), Lib.hid (fun h => absurd h (by rw [Hx.out]; simp)), Lib.hid (fun h => absurd h (by rw [Hx.out]; simp)), HL1, H9⟩
      | none =>
        have He9 := Lib.hid (errV_none h9 g9)
        have Hn9 := Lib.hid h9
        clear h9
        by_cases hz : n8 = 0 ∧ n9 = 0
        · obtain ⟨hz8, hz9⟩ := hz
          have HZ : Hid (∀ ok R4, zerosM R9 = (ok, R4) → readMvM s = (if ok = true then some (L.map ARow.a) else none, R4)) := Lib.hid (fun ok R4 h => HM.out.trans (mvM_zero Hn.out E8.out E9.out Hn9.out hz8 hz9 h))
          subst hz8
          subst hz9
          go_wp2_with (first
            | ((with_reducible refine (err_st H9.out).mono ?_)
               rintro e w10 ⟨rfl, rfl⟩
               rw [He9.out]))
          refine (zeros_e H9.out).mono ?_
          rintro e w11 ⟨ok, R11, e11, rfl, g11, h11⟩
          have H11 := Lib.hid h11
          have hM := HZ.out ok R11 e11
          cases ok
          · have hne : R11.err ≠ none := fun h => by
              have := (zerosM_err (R := R9)).2 (by rw [e11]; exact h)
              rw [e11] at this; cases this
            obtain ⟨x, hx⟩ := Option.ne_none_iff_exists'.1 hne
            have HMx : Hid (readMvM s = (none, R11)) := Lib.hid (by rw [hM]; rfl)
            have Hx := Lib.hid hx
            clear hM hne hx e11 h11
            go_wp2_with fail
            go_roundg f
            case measure => omega
            case rel => exact ⟨L, R11, g11, Lib.hid (by rw [HMx.out]; exact (mvM_had Hx.out).symm), Lib.hid (fun h => absurd h (by rw [Hx.out]; simp)), Lib.hid (fun h => absurd h (by rw [Hx.out]; simp)), HL1, H11⟩
          · obtain ⟨A6, c6, rfl⟩ := own_shape (H11.out.item (k := ownI 38 3 u6 L.length (avRow L)) (List.mem_of_getElem? (i := 1) rfl))
            have HMs := Lib.hid hM
            clear hM e11 h11
            go_wp2_with fail
            go_ret2
            obtain ⟨A5, c5, e5, h5c, h5r⟩ := own_row (C := L.map ARow.vals) (n := L.length) (size := 3) (H11.out.item (k := ownI 38 3 (.slice A6 L.length c6) L.length (avRow L)) (List.mem_of_getElem? (i := 1) rfl)) (fun c hc => by obtain ⟨x, _, rfl⟩ := List.mem_map.1 hc; rfl) (by rw [List.length_map])
            injection e5 with e5a _ e5b
            subst e5a e5b
            exact ⟨MvGot.some HMs.out h5c (fun hn => by
              obtain ⟨g, e, _, hg, hk⟩ := h5r (by rw [List.length_map] at hn; exact hn)
              exact ⟨g, 0, e, hg, fun k hk' => by rw [Nat.zero_add]; exact hk k hk'⟩) (evs_at (H11.out.item (k := evsI L) (List.mem_of_getElem? (i := 2) rfl))), by rw [hb]; exact H11.out.below⟩
        · by_cases h81 : n8 = 1
          · by_cases h92 : n9 = 2
            · have hgo := HM.out.trans (mvM_go (f := f) (l := L.map ARow.a) Hn.out E8.out E9.out Hn9.out h81 h92)
              have hok9 := H9.out.rdp.ok
              obtain ⟨X0, hX0⟩ : ∃ X0, attrsM 43 R.place R9 (L.map ARow.a) = X0 := ⟨_, rfl⟩
              rw [hX0] at hgo
              have hback := attrsM_back 43 R.place R9 (L.map ARow.a) hok9 (by rw [List.length_map]; exact HLn.out) (by omega)
              rw [hX0] at hback
              have hR9 : R9.at_ = R.at_ + 2 ∧ R9.s = R.s := by
                obtain ⟨c, rest, k1, k2, k3, k4⟩ := numM_back Hrok.out (n := 1) (by
                  have := numM_back (R := R8) (n := 1) H8ok.out (by rw [E9.out]; exact Hn9.out)
                  obtain ⟨c, rest, k1, k2, k3, k4⟩ := this
                  rw [E8.out]; exact k2.none)
                obtain ⟨c', rest', j1, j2, j3, j4⟩ := numM_back (R := R8) (n := 1) H8ok.out (by rw [E9.out]; exact Hn9.out)
                rw [(Prod.mk.inj (E9.out.symm.trans j3)).2, (Prod.mk.inj (E8.out.symm.trans k3)).2]
                exact ⟨rfl, rfl⟩
              have Hback : Hid (X0.2.err = none → X0.1.length ≤ 40 ∧ X0.2.s.length - X0.2.at_ < f) := Lib.hid (fun h => by
                obtain ⟨m, c, rest, e1, e2, _, _, e5, e6⟩ := hback h
                rw [e1]
                refine ⟨e2, ?_⟩
                have l1 := e5.len
                have l2 := e6.len
                rw [List.length_append] at l1
                rw [hR9.1, hR9.2] at l1
                have := HFn.out
                omega)
              have Hgo := Lib.hid hgo
              subst h81
              subst h92
              clear hgo hback hz hR9
              go_wp2_with (first
                | ((with_reducible refine (err_st H9.out).mono ?_)
                   rintro e w10 ⟨rfl, rfl⟩
                   rw [He9.out]))
              refine (attr_any H9.out).mono ?_
              rintro e w10 ⟨a, sv10, g10, he10, h10, hx10⟩
              have hq := inner_first (sv := sv10) (p := R.place) (gk := 42) (L := L) hok9 hX0.symm (fun _ => HLn.out) (by omega) hx10
              obtain ⟨ok, hok⟩ : ∃ ok, (attrM R9).1.isSome = ok := ⟨_, rfl⟩
              obtain ⟨R10, hR10⟩ : ∃ R', (attrM R9).2 = R' := ⟨_, rfl⟩
              rw [hok] at he10 hq
              rw [hR10] at hq h10
              obtain ⟨r, hr⟩ : ∃ r : ARow, r = ⟨a, sv10⟩ := ⟨_, rfl⟩
              have hrv : a.vals sv10 = r.vals := by rw [hr]; rfl
              rw [hrv] at he10
              rw [← hr] at hq
              subst he10
              have h10 : St b w w10 (rd b R10 g10 :: evI r :: ownI 38 3 u6 L.length (avRow L) :: evsI L :: []) := by rw [hr]; exact h10
              have Hone : Hid (∀ v ∈ r.vals, v.oneCell' = true) := Lib.hid (ev_one (h10.item (k := evI r) (List.mem_of_getElem? (i := 1) rfl)))
              have H10 := Lib.hid h10
              have HQ := Lib.hid hq
              clear hX0 hq hok hR10 hr hrv h10 hx10 hok9 H9
              go_upto_region 10 with (first
                | ((with_reducible refine wpList_store_blk (ty := 38) (b := ?b11) (o := ?o11) (t := 38) zAv r.vals ?hx11 ?hy11 ?hB11 ?ho11 ?hi11 ?h111 ?hk11)
                   case hx11 => rfl
                   case hy11 => rfl
                   case hB11 => exact Blk.new w10 zAv 38
                   case ho11 => exact Nat.le_refl _
                   case hi11 => exact info38
                   case h111 => exact Hone.out
                   intro W11 hBW11 hoW11))
              have H11 : Hid (St b w W11 (rd b R10 g10 :: bk w10.heap.size 38 r.vals :: evI r :: ownI 38 3 u6 L.length (avRow L) :: evsI L :: [])) := Lib.hid (((H10.out.alloc zAv 38).sets (L' := r.vals) hBW11 hoW11).swap)
              clear hBW11 hoW11 H10 Hone
              generalize w10.heap.size = Pa at *
              go_loopg [6, 10, 11] 42 (fun gk s6 s10 s11 wr => ∃ (L1 : List ARow) (r1 : ARow) (R11 : RS) (g11 : Nat) (P1 : Nat) (ok1 : Bool), s10 = .pointer (some ⟨P1, 0, none⟩) ∧ s11 = .bool ok1 ∧ Hid (InnerQ X0 R.place gk ok1 L1 r1 R11) ∧ Hid (L1.length ≤ 41) ∧ Hid (St b w wr (rd b R11 g11 :: bk P1 38 r1.vals :: evI r1 :: ownI 38 3 s6 L1.length (avRow L1) :: evsI L1 :: [])))
              case atStart => exact ⟨L, r, R10, g10, Pa, ok, rfl, rfl, HQ, HL1, H11⟩
              case round =>
                obtain ⟨L1, r1, R11, g11, P1, ok1, rfl, rfl, HQ1, HL2, HS1⟩ := hrel
                clear H11 HQ
                cases ok1
                · have hX : X0 = (L1.map ARow.a, R11) := HQ1.out.1
                  have hgo := Hgo.out
                  have hbk := Hback.out
                  rw [hX] at hgo hbk
                  have HM1 := Lib.hid hgo
                  have HB1 : Hid (R11.err = none → R11.s.length - R11.at_ < f) := Lib.hid (fun h => (hbk h).2)
                  have HB2 : Hid (R11.err = none → L1.length ≤ 40) := Lib.hid (fun h => by have := (hbk h).1; rwa [List.length_map] at this)
                  have H12 := Lib.hid (HS1.out.sub (List.Sublist.cons₂ _ (List.Sublist.cons _ (List.sublist_cons_self _ _))))
                  clear hX hgo hbk
                  go_wp2_with fail
                  go_roundg f
                  case measure => omega
                  case rel => exact ⟨L1, R11, g11, HM1, HB1, HB2, HL2, H12⟩
                · obtain ⟨hq1, hq2⟩ := HQ1.out
                  obtain ⟨hq3, hq4⟩ := hq2 rfl
                  rw [if_pos rfl] at hq1
                  obtain ⟨f2, rfl⟩ : ∃ f2, gk = f2 + 1 := ⟨gk - 1, by omega⟩
                  have Hq1 := Lib.hid hq1
                  have Hq4 := Lib.hid hq4
                  have Hone : Hid (∀ v ∈ r1.vals, v.oneCell' = true) := Lib.hid (ev_one (HS1.out.item (k := evI r1) (List.mem_of_getElem? (i := 2) rfl)))
                  have Rr := Lib.hid (Blk.box (HS1.out.at 1 rfl)).range
                  obtain ⟨A6, c6, rfl⟩ := own_shape (HS1.out.item (k := ownI 38 3 u6 L1.length (avRow L1)) (List.mem_of_getElem? (i := 3) rfl))
                  clear hq1 hq2 hq4 HQ1
                  go_upto_block 4 with (fail)
                  go_cut [6] (fun s6 wx => RdTo b w b (if 40 < L1.length + 1 then failM R11 4 (R.place : Int) else R11) (bk P1 38 r1.vals :: ownI 38 3 s6 (L1 ++ [r1]).length (avRow (L1 ++ [r1])) :: evsI (L1 ++ [r1]) :: []) wx)
                  case first =>
                    go_upto_region 13 with (first
                      | (with_reducible refine wpList_load_rng (ty := 38) r1.vals (by with_unfolding_all rfl) Rr.out Tryd.underlying38 (by with_unfolding_all rfl) (by with_unfolding_all exact info38) ?_)
                      | ((with_reducible refine wpList_build1 r1.vals elemAv ?hxb rfl (by decide) ?_)
                         case hxb => rfl
                         intro W12 hB12 hb12 hl12)
                      | (at_builtin; refine wpList_append_st (t := 22) (e := 38) (size := 3) (bytes := 40) (n := L1.length) (m := 1) (c := 1) (avRow L1) r1.vals elemAv ((HS1.out.ext hb12).pull 3 rfl) (by with_unfolding_all rfl) (by with_unfolding_all rfl) (fun j u hj => by rw [Addr.add_mid]; exact (Blk.box hB12).range j u hj) rfl Hone.out (by decide) (by unfold maxLen; omega) (by omega) (fun gT capT W13 H13 => ?_)))
                    have h14 := ((((((H13.pull 3 rfl).pull 4 rfl).swap).evs).pull 1 rfl).pull 3 rfl).pull 3 rfl
                    have H14 : Hid (St b w W13 (rd b R11 g11 :: bk P1 38 r1.vals :: ownI 38 3 (.slice (some ⟨gT, 0, none⟩) (L1.length + 1) capT) (L1 ++ [r1]).length (avRow (L1 ++ [r1])) :: evsI (L1 ++ [r1]) :: [])) := Lib.hid (by
                      rw [avRow_snoc, List.length_append]; exact h14)
                    clear h14 H13 Rr HS1
                    by_cases h40 : 40 < L1.length + 1
                    · have h40i : (40 : Int) < (L1.length : Int) + 1 := by omega
                      go_wp2_with (first
                        | ((with_reducible refine (fail_st H14.out 4 _).mono ?_)
                           rintro e w15 ⟨rfl, h15⟩
                           have H15 := Lib.hid h15
                           clear h15))
                      go_meet
                      rw [if_pos h40]
                      exact H15.out
                    · have h40i : ¬ (40 : Int) < (L1.length : Int) + 1 := by omega
                      go_wp2_with fail
                      go_meet
                      rw [if_neg h40]
                      exact ⟨g11, H14.out⟩
                  case rest =>
                  obtain ⟨R15, hR15⟩ : ∃ R', (if 40 < L1.length + 1 then failM R11 4 (R.place : Int) else R11) = R' := ⟨_, rfl⟩
                  have h15L : R15.err = none → (L1 ++ [r1]).length ≤ 40 := fun h => by
                    rw [← hR15] at h
                    rw [List.length_append]
                    split at h
                    · exact (failM_back h).elim
                    · show L1.length + 1 ≤ 40; omega
                  have hX15 : X0 = attrsM (f2 + 1) R.place R15 ((L1 ++ [r1]).map ARow.a) := by rw [Hq1.out, hR15]; simp
                  rw [hR15] at hcut
                  obtain ⟨g15, h15⟩ := hcut
                  have H15 := Lib.hid h15
                  have R15r := Lib.hid (Blk.box (h15.at 1 rfl)).range
                  have hok15 := h15.rdp.ok
                  clear h15 hR15 HS1
                  go_upto_region 11 with (first
                    | (with_reducible refine wpList_load_rng (ty := 38) r1.vals (by with_unfolding_all rfl) R15r.out Tryd.underlying38 (by with_unfolding_all rfl) (by with_unfolding_all exact info38) ?_)
                    | ((with_reducible refine wpList_store_blk (ty := 38) (b := ?b15) (o := ?o15) (t := 38) zAv r1.vals ?hx15 ?hy15 ?hB15 ?ho15 ?hi15 ?h115 ?hk15)
                       case hx15 => rfl
                       case hy15 => rfl
                       case hB15 => exact Blk.new wc zAv 38
                       case ho15 => exact Nat.le_refl _
                       case hi15 => exact info38
                       case h115 => exact Hone.out
                       intro W16 hBW16 hoW16))
                  have H16 : Hid (St b w W16 (rd b R15 g15 :: bk wc.heap.size 38 r1.vals :: ownI 38 3 u6 (L1 ++ [r1]).length (avRow (L1 ++ [r1])) :: evsI (L1 ++ [r1]) :: [])) := Lib.hid ((((H15.out.alloc zAv 38).sets (L' := r1.vals) hBW16 hoW16).pull 1 rfl).sub (List.Sublist.cons₂ _ (List.Sublist.cons₂ _ (List.sublist_cons_self _ _))))
                  clear hBW16 hoW16 H15 R15r
                  generalize wc.heap.size = P2 at *
                  go_wp2_with fail
                  refine (attr_any H16.out).mono ?_
                  rintro e w17 ⟨a2, sv2, g17, he17, h17, hx17⟩
                  have hq := inner_first (sv := sv2) (p := R.place) (gk := f2) (L := L1 ++ [r1]) hok15 hX15 h15L (by have := Hq4.out; rw [List.length_append]; show _ ≤ f2 + (L1.length + 1); omega) hx17
                  obtain ⟨ok2, hok2⟩ : ∃ ok, (attrM R15).1.isSome = ok := ⟨_, rfl⟩
                  obtain ⟨R17, hR17⟩ : ∃ R', (attrM R15).2 = R' := ⟨_, rfl⟩
                  rw [hok2] at he17 hq
                  rw [hR17] at hq h17
                  obtain ⟨r2, hr2⟩ : ∃ r : ARow, r = ⟨a2, sv2⟩ := ⟨_, rfl⟩
                  have hrv : a2.vals sv2 = r2.vals := by rw [hr2]; rfl
                  rw [hrv] at he17
                  rw [← hr2] at hq
                  subst he17
                  have h17 : St b w w17 (rd b R17 g17 :: evI r2 :: bk P2 38 r1.vals :: ownI 38 3 u6 (L1 ++ [r1]).length (avRow (L1 ++ [r1])) :: evsI (L1 ++ [r1]) :: []) := by rw [hr2]; exact h17
                  have Hone2 : Hid (∀ v ∈ r2.vals, v.oneCell' = true) := Lib.hid (ev_one (h17.item (k := evI r2) (List.mem_of_getElem? (i := 1) rfl)))
                  have H17 := Lib.hid (h17.pull 2 rfl)
                  have HQ2 := Lib.hid hq
                  have HLL : Hid ((L1 ++ [r1]).length ≤ 41) := Lib.hid (by rw [List.length_append]; show L1.length + 1 ≤ 41; omega)
                  clear hX15 hq hok2 hR17 hr2 hrv h17 hx17 hok15 H16 Hone h15L Hq1 Hq4
                  go_wp2_with (first
                    | (with_reducible refine wpList_store_blk (ty := 38) (o := 0) _ r2.vals (by with_unfolding_all rfl) (by with_unfolding_all rfl) (H17.out.at 0 rfl) (by with_unfolding_all exact Nat.le_refl _) (by with_unfolding_all exact info38) Hone2.out (fun W18 hBW18 hoW18 => ?_)))
                  have H18 : Hid (St b w W18 (rd b R17 g17 :: bk P2 38 r2.vals :: evI r2 :: ownI 38 3 u6 (L1 ++ [r1]).length (avRow (L1 ++ [r1])) :: evsI (L1 ++ [r1]) :: [])) := Lib.hid (((H17.out.sets (L' := r2.vals) hBW18 hoW18).pull 1 rfl))
                  go_roundg f2
                  case measure => omega
                  case rel => exact ⟨L1 ++ [r1], r2, R17, g17, P2, ok2, rfl, rfl, HQ2, HLL, H18⟩
            · have HMx := Lib.hid (HM.out.trans (mvM_size (f := f) (l := L.map ARow.a) Hn.out E8.out E9.out Hn9.out h81 h92))
              subst h81
              have hb9 : ((n9 : Int) != 2) = true := by rw [bne_iff_ne]; omega
              clear hz h92
              go_wp2_with (first
                | ((with_reducible refine (err_st H9.out).mono ?_)
                   rintro e w10 ⟨rfl, rfl⟩
                   rw [He9.out])
                | ((with_reducible refine (fail_st H9.out 3 _).mono ?_)
                   rintro e w11 ⟨rfl, g11, h11⟩
                   skip))
              have hpl : wrap64 ((R.place : Int) + 1) = ((R.place + 1 : Nat) : Int) := by
                obtain ⟨o1, o2⟩ := Hrok.out
                have : R.place = R.off + R.at_ := rfl
                unfold wrap64; omega
              rw [hpl] at h11
              have hx : (failM R9 3 ((R.place + 1 : Nat) : Int)).err = some (3, ((R.place + 1 : Nat) : Int)) := by rw [failM_new Hn9.out]
              have Hx := Lib.hid hx
              have H11 := Lib.hid h11
              clear hx h11
              go_roundg f
              case measure => omega
              case rel => exact ⟨L, _, g11, Lib.hid (by rw [HMx.out]; exact (mvM_had Hx.out).symm), Lib.hid (fun h => absurd h (by rw [Hx.out]; simp)), Lib.hid (fun h => absurd h (by rw [Hx.out]; simp)), HL1, H11⟩
          · have HMx := Lib.hid (HM.out.trans (mvM_kind (f := f) (l := L.map ARow.a) Hn.out E8.out E9.out Hn9.out hz h81))
            have hx : (failM R9 5 (R.place : Int)).err = some (5, (R.place : Int)) := by rw [failM_new Hn9.out]
            have Hx := Lib.hid hx
            by_cases h80 : n8 = 0
            · have h90 : ¬ n9 = 0 := fun h => hz ⟨h80, h⟩
              subst h80
              have hb9 : ((n9 : Int) == 0) = false := by rw [beq_eq_false_iff_ne]; omega
              clear hz h81 h90 hx
              go_wp2_with (first
                | ((with_reducible refine (err_st H9.out).mono ?_)
                   rintro e w10 ⟨rfl, rfl⟩
                   rw [He9.out])
                | ((with_reducible refine (fail_st H9.out 5 _).mono ?_)
                   rintro e w11 ⟨rfl, g11, h11⟩
                   have H11 := Lib.hid h11
                   clear h11))
              go_roundg f
              case measure => omega
              case rel => exact ⟨L, _, g11, Lib.hid (by rw [HMx.out]; exact (mvM_had Hx.out).symm), Lib.hid (fun h => absurd h (by rw [Hx.out]; simp)), Lib.hid (fun h => absurd h (by rw [Hx.out]; simp)), HL1, H11⟩
            · have hb8 : ((n8 : Int) == 0) = false := by rw [beq_eq_false_iff_ne]; omega
              have hb81 : ((n8 : Int) != 1) = true := by rw [bne_iff_ne]; omega
              clear hz h81 h80 hx
              go_wp2_with (first
                | ((with_reducible refine (err_st H9.out).mono ?_)
                   rintro e w10 ⟨rfl, rfl⟩
                   rw [He9.out])
                | ((with_reducible refine (fail_st H9.out 5 _).mono ?_)
                   rintro e w11 ⟨rfl, g11, h11⟩
                   have H11 := Lib.hid h11
                   clear h11))
              go_roundg f
              case measure => omega
              case rel => exact ⟨L, _, g11, Lib.hid (by rw [HMx.out]; exact (mvM_had Hx.out).symm), Lib.hid (fun h => absurd h (by rw [Hx.out]; simp)), Lib.hid (fun h => absurd h (by rw [Hx.out]; simp)), HL1, H11⟩
end Go.Proofs.YtjekdodboihfhaaDoor
