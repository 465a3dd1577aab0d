/- tlv.Read, whatever is read. -/
import Derived.Test.YteibhcocldihbaaDoorTlv1
import Derived.Test.YteibhcocldihbaaDoorStE
import Derived.Test.YteibhcocldihbaaDoorItems
import Derived.Test.YteibhcocldihbaaDoorBuild2
set_option linter.all false
namespace Go.Proofs.YteibhcocldihbaaDoor
open Go.RowKit
theorem elemTlv : ElemOk Tryd.prog 148 147 2 24 := by
  have h : (Tryd.prog.info? 147).map (fun i => (i.zero, i.size, i.bytes)) = some (some (.agg zTv.toArray), 2, 24) := by kernel_rfl
  obtain ⟨i, hi, hz, hs, hb⟩ := info_parts h
  exact ⟨Tryd.underlying148, i, _, hi, hz, hs, hb, rfl, by decide⟩
theorem elemAt : ElemOk Tryd.prog 163 3 1 8 := by
  have h : (Tryd.prog.info? 3).map (fun i => (i.zero, i.size, i.bytes)) = some (some (.int .i64 0), 1, 8) := by kernel_rfl
  obtain ⟨i, hi, hz, hs, hb⟩ := info_parts h
  exact ⟨Tryd.underlying163, i, _, hi, hz, hs, hb, rfl, by decide⟩
def tvRow (l : List Tv) : List Value := (l.map Tv.vals).flatten
def atRow (l : List Nat) : List Value := (l.map fun (a : Nat) => [Value.int .i64 (a : Int)]).flatten
theorem tvRow_snoc (l : List Tv) (t : Tv) : tvRow (l ++ [t]) = tvRow l ++ t.vals := by simp [tvRow]
theorem atRow_snoc (l : List Nat) (a : Nat) : atRow (l ++ [a]) = atRow l ++ [Value.int .i64 (a : Int)] := by simp [atRow]
/-- A row of one's own as a slice of rows. -/
theorem own_sl {w : World} {t size : Nat} {v : Value} {C : List (List Value)} (h : w.ownsRow 0 t size v C.length C.flatten) (hC : ∀ c ∈ C, c.length = size) : ∃ A cap, v = .slice A C.length cap ∧ SlRow w w.heap.size size A C := by
  obtain ⟨A, cap, hv, _, hr⟩ := own_row h hC rfl
  refine ⟨A, cap, hv, fun hn => ?_⟩
  obtain ⟨g, rfl, _, hg, hk⟩ := hr hn
  exact ⟨g, 0, rfl, hg, fun k hk' => by rw [Nat.zero_add]; exact hk k hk'⟩
theorem tv_and (n : Nat) (hn : n < 65536) : bits .and .i64 (n : Int) 511 = ((n % 512 : Nat) : Int) := by
  have e1 : (BitVec.ofInt 64 (n : Int)).toNat = n := by rw [BitVec.ofInt_natCast, BitVec.toNat_ofNat]; exact Nat.mod_eq_of_lt (by omega)
  show IntKind.i64.wrap ((BitVec.ofInt 64 (n : Int) &&& BitVec.ofInt 64 (511 : Int)).toNat : Int) = _
  rw [BitVec.toNat_and, e1, show (BitVec.ofInt 64 (511 : Int)).toNat = 2 ^ 9 - 1 by decide, Nat.and_two_pow_sub_one_eq_mod, IntKind.wrap_i64]
  omega
theorem tlv_built (x : Int) (l : List UInt8) : Tryd.prog.built 147 [(0, .int .i64 x), (1, .string ⟨l.toArray⟩)] = some (Tv.vals ⟨x, l⟩).toArray := by kernel_rfl
theorem tlvM_go {f : Nat} {R R2 R3 : RS} {n : Nat} {c : List UInt8} {l : List Tv} {ats : List Nat} (he : R.err = none) (hn : numM R 2 = (n, R2)) (hb : bytesM R2 (n % 512) = (c, R3)) (h : decide (R2.err = none ∧ n / 512 = 0) = false) :
    tlvM (f + 1) R l ats = tlvM f R3 (l ++ [⟨(n : Int) / 512, c⟩]) (ats ++ [R.place]) := by
  have h := of_decide_eq_false h
  conv => lhs; unfold tlvM
  rw [he]
  simp only [hn, hb]
  rw [if_neg h]
  rfl
theorem tlvM_end0 {f : Nat} {R R2 : RS} {n : Nat} {l : List Tv} {ats : List Nat} (he : R.err = none) (hn : numM R 2 = (n, R2)) (h : decide (R2.err = none ∧ n / 512 = 0) = true) (h0 : n ≠ 0) :
    tlvM (f + 1) R l ats = (none, failM R2 3 (R.place : Int)) := by
  have h := of_decide_eq_true h
  conv => lhs; unfold tlvM
  rw [he]
  simp only [hn]
  rw [if_pos h, if_pos h0]
  have hz : zerosM (failM R2 3 (R.place : Int)) = (false, failM R2 3 (R.place : Int)) := zerosM_had (x := (3, (R.place : Int))) (by rw [failM_new h.1])
  rw [hz]; rfl
theorem tlvM_end1 {f : Nat} {R R2 R3 : RS} {ok : Bool} {l : List Tv} {ats : List Nat} (he : R.err = none) (hn : numM R 2 = (0, R2)) (h : R2.err = none) (hz : zerosM R2 = (ok, R3)) :
    tlvM (f + 1) R l ats = (if ok = true then some (l, ats, R.place) else none, R3) := by
  conv => lhs; unfold tlvM
  rw [he]
  simp only [hn]
  have h2 : R2.err = none ∧ True := ⟨h, trivial⟩
  rw [if_pos h2]
  simp only [ne_eq, not_true_eq_false, if_false, hz]
  cases ok <;> rfl
/-- What Read hands back. -/
def TlvGot (s : List UInt8) (e : Ending) (w' : World) : Prop :=
  (∀ l ats z R, readTlvM s = (some (l, ats, z), R) → ∃ A c A' c', e = .returned (.tuple #[.slice A l.length c, .slice A' ats.length c', .int .i64 (z : Int), .nilIface]) ∧ SlRow w' w'.heap.size 2 A (l.map Tv.vals) ∧ SlRow w' w'.heap.size 1 A' (ats.map fun (a : Nat) => [Value.int .i64 (a : Int)])) ∧
  (∀ R, readTlvM s = (none, R) → ∃ g, e = .returned (.tuple #[.slice none 0 0, .slice none 0 0, .int .i64 0, .iface 130 (.pointer (some ⟨g, 0, none⟩))]))
theorem TlvGot.none {s : List UInt8} {R : RS} {g : Nat} {w' : World} (h : readTlvM s = (none, R)) : TlvGot s (.returned (.tuple #[.slice none 0 0, .slice none 0 0, .int .i64 0, .iface 130 (.pointer (some ⟨g, 0, none⟩))])) w' :=
  ⟨fun l ats z R' h' => (by rw [h] at h'; cases (Prod.mk.inj h').1), fun R' _ => ⟨g, rfl⟩⟩
set_option maxRecDepth 100000 in
set_option maxHeartbeats 4000000 in
theorem tlvRead_any (s : List UInt8) (hs : s.length ≤ 1000000) (w : World) :
    Calls Tryd.prog 98 #[.string ⟨s.toArray⟩] w fun e w' => TlvGot s e w' ∧ Below w.heap.size w w' := by
  have H0 := Lib.hid (St.init w)
  go_enter Tryd.func98, Tryd.ntmps98
  go_wp2_with fail
  refine (new_st H0.out s 0 (by omega)).mono ?_
  rintro e w1 ⟨rfl, h1⟩
  have H1 := Lib.hid (((h1.own0 3 1).own0 147 2).pull 2 rfl)
  clear h1 H0
  generalize hb : w.heap.size = b at *
  go_upto_region 4 with (fail)
  go_loopg [7, 8, 9, 10, 11] (s.length + 1) (fun gk s7 s8 _ _ _ wr => ∃ (l : List Tv) (ats : List Nat) (R : RS) (g : Nat), Hid (readTlvM s = tlvM gk R l ats) ∧ Hid (R.err = none → R.s.length - R.at_ < gk) ∧ Hid (l.length + gk = s.length + 1) ∧ Hid (ats.length = l.length) ∧ Hid (St b w wr (rd b R g :: ownI 147 2 s7 l.length (tvRow l) :: ownI 3 1 s8 ats.length (atRow ats) :: [])))
  case atStart => exact ⟨[], [], newM s 0, 0, Lib.hid rfl, Lib.hid (fun _ => by show s.length - 0 < _; omega), Lib.hid (by simp), Lib.hid rfl, H1⟩
  case round =>
    obtain ⟨l, ats, R, g, HM, HF, HL, HA, HS⟩ := hrel
    clear H1
    cases he : R.err with
    | some x =>
      have hM : readTlvM s = (none, R) := by rw [HM.out, tlvM_had he]
      have HM' := Lib.hid hM
      have He := Lib.hid (errV_some he g)
      clear he hM
      go_wp2_with (first
        | ((with_reducible refine (err_st HS.out).mono ?_)
           rintro e w6 ⟨rfl, rfl⟩
           rw [He.out])
        | ((with_reducible refine (err_st HS.out).mono ?_)
           rintro e w7 ⟨rfl, rfl⟩
           rw [He.out]))
      go_returns
      exact ⟨TlvGot.none HM'.out, by rw [hb]; exact HS.out.below⟩
    | none =>
      obtain ⟨f, rfl⟩ : ∃ f, gk = f + 1 := ⟨gk - 1, by have := HF.out he; omega⟩
      have He := Lib.hid (errV_none he g)
      have Hn := Lib.hid he
      go_wp2_with (first
        | ((with_reducible refine (err_st HS.out).mono ?_)
           rintro e w6 ⟨rfl, rfl⟩
           rw [He.out]))
      refine (at_st HS.out).mono ?_
      rintro e w7 ⟨rfl, h7⟩
      have H7 := Lib.hid h7
      have hok := h7.rdp.ok
      clear h7 HS he
      go_wp2_with fail
      refine (num_e H7.out 2 (by decide) (by decide)).mono ?_
      rintro e w8 ⟨n8, R8, e8, l8, rfl, g8, h8⟩
      have E8 := Lib.hid e8
      have H8 := Lib.hid h8
      clear e8 h8 H7
      have hF8 : Hid (R8.err = none → R8.s.length - R8.at_ < f) := Lib.hid (fun h8 => by
        have hf := HF.out Hn.out
        have e8 := E8.out
        unfold numM at e8
        obtain ⟨c, rest, h1, h2, h3, h4⟩ := bytesM_back hok (n := 2) (by rw [(Prod.mk.inj e8).2]; exact h8)
        have hR8 : R8 = R.skip 2 := by rw [← (Prod.mk.inj e8).2, h3]
        rw [hR8]
        have hl := h2.len
        rw [List.length_append, h1] at hl
        show R.s.length - (R.at_ + 2) < f
        omega)
      go_upto_region 7 with (fail)
      obtain ⟨cond, hcd⟩ : ∃ c, decide (R8.err = none ∧ n8 / 512 = 0) = c := ⟨_, rfl⟩
      have Hcd := Lib.hid hcd
      clear hcd
      go_cut [28] (fun c wx => c = .bool cond ∧ wx = w8)
      case first =>
        cases hr : R8.err with
        | some x =>
          obtain rfl : cond = false := by rw [← Hcd.out, hr]; simp
          have He8 := Lib.hid (errV_some hr g8)
          clear hr
          go_wp2_with (first
            | ((with_reducible refine (err_st H8.out).mono ?_)
               rintro e w9 ⟨rfl, rfl⟩
               rw [He8.out]))
          go_meet
          exact ⟨rfl, rfl⟩
        | none =>
          have He8 := Lib.hid (errV_none hr g8)
          by_cases h0 : n8 / 512 = 0
          · obtain rfl : cond = true := by rw [← Hcd.out, hr]; simp [h0]
            have hI : ((n8 : Int) / 512 == 0) = true := by rw [beq_iff_eq]; omega
            clear hr h0
            go_wp2_with (first
              | ((with_reducible refine (err_st H8.out).mono ?_)
                 rintro e w9 ⟨rfl, rfl⟩
                 rw [He8.out]))
            go_meet
            exact ⟨rfl, rfl⟩
          · obtain rfl : cond = false := by rw [← Hcd.out]; simp [h0]
            have hI : ((n8 : Int) / 512 == 0) = false := by rw [beq_eq_false_iff_ne]; omega
            clear hr h0
            go_wp2_with (first
              | ((with_reducible refine (err_st H8.out).mono ?_)
                 rintro e w9 ⟨rfl, rfl⟩
                 rw [He8.out]))
            go_meet
            exact ⟨rfl, rfl⟩
      case rest =>
      obtain ⟨rfl, rfl⟩ := hcut
      go_upto_if 28 with (fail)
      cases cond
      · -- a record
        have hand := tv_and n8 (by omega)
        have hmm : n8 % 512 ≤ 511 := by omega
        obtain ⟨m, hm⟩ : ∃ m, n8 % 512 = m := ⟨_, rfl⟩
        rw [hm] at hand hmm
        have Hm := Lib.hid hm
        clear hm
        obtain ⟨Al, cl, rfl⟩ := own_shape (H8.out.item (k := ownI 147 2 u7 l.length (tvRow l)) (List.mem_of_getElem? (i := 1) rfl))
        obtain ⟨Aa, ca, rfl⟩ := own_shape (H8.out.item (k := ownI 3 1 u8 ats.length (atRow ats)) (List.mem_of_getElem? (i := 2) rfl))
        go_wp2_with fail
        refine (bytes_e H8.out m (by omega)).mono ?_
        rintro e w9 ⟨n9, R9, e9, l9, rfl, g9, h9⟩
        have E9 := Lib.hid e9
        have H9 := Lib.hid h9
        have hok8 := H8.out.rdp.ok
        clear e9 h9 H8
        obtain ⟨t, ht⟩ : ∃ t : Tv, t = ⟨(n8 : Int) / 512, n9⟩ := ⟨_, rfl⟩
        have TB : Tryd.prog.built 147 [(0, .int .i64 ((n8 : Int) / 512)), (1, .string ⟨n9.toArray⟩)] = some t.vals.toArray := by rw [ht]; exact tlv_built _ _
        have Ht := Lib.hid ht
        have Htb := Lib.hid TB
        have hok9 := H9.out.rdp.ok
        have hgo := tlvM_go (f := f) (R3 := R9) (c := n9) (l := l) (ats := ats) Hn.out E8.out (by rw [Hm.out]; exact E9.out) Hcd.out
        rw [← ht, ← HM.out] at hgo
        have Hgo := Lib.hid hgo
        have hF9 : Hid (R9.err = none → R9.s.length - R9.at_ < f) := Lib.hid (fun h9 => by
          obtain ⟨c, rest, h1, h2, h3, h4⟩ := bytesM_back hok8 (n := m) (by rw [E9.out]; exact h9)
          have hR9 : R9 = R8.skip m := by
            have := E9.out.symm.trans h3
            exact (Prod.mk.inj this).2
          have hf := hF8.out h2.none
          rw [hR9]
          show R8.s.length - (R8.at_ + m) < f
          omega)
        clear ht TB hgo hF8 HF
        go_upto_region 13 with (fail)
        have H10 : Hid (St b w (w9.alloc (.cells #[.int .i64 ((n8 : Int) / 512), .string ⟨n9.toArray⟩] 147)) (bk w9.heap.size 147 t.vals :: rd b R9 g9 :: ownI 147 2 (.slice Al l.length cl) l.length (tvRow l) :: ownI 3 1 (.slice Aa ats.length ca) ats.length (atRow ats) :: [])) := Lib.hid (by rw [Ht.out]; exact H9.out.alloc (Tv.vals ⟨(n8 : Int) / 512, n9⟩) 147)
        clear H9 Ht Htb
        generalize w9.heap.size = P at *
        generalize World.alloc _ _ = w10 at *
        have hlen : l.length ≤ s.length := by have := HL.out; omega
        have hlenA : ats.length ≤ s.length := by have := HL.out; have := HA.out; omega
        go_wp2_with (first
          | (with_reducible refine wpList_load_rng (ty := 147) t.vals (by with_unfolding_all rfl) (Blk.box (H10.out.at 0 rfl)).range Tryd.underlying147 (by with_unfolding_all rfl) (by with_unfolding_all exact info147) ?_)
          | ((with_reducible refine wpList_build1 t.vals elemTlv ?hxb rfl (by decide) ?_)
             case hxb => rfl
             intro W11 hB11 hb11 hl11)
          | (at_builtin; refine wpList_append_st (t := 148) (e := 147) (size := 2) (bytes := 24) (n := l.length) (m := 1) (c := 1) (tvRow l) t.vals elemTlv ((H10.out.ext hb11).pull 2 rfl) (by with_unfolding_all rfl) (by with_unfolding_all rfl) (fun j u hj => by rw [Addr.add_mid]; exact (Blk.box hB11).range j u hj) rfl (Tv.one t) (by decide) (by unfold maxLen; omega) (by omega) (fun gT capT W12 H12 => ?_))
          | (at_builtin; refine wpList_append_st (t := 163) (e := 3) (size := 1) (bytes := 8) (n := ats.length) (m := 1) (c := 1) (atRow ats) [.int .i64 (R.place : Int)] elemAt ((H12.ext ((Below.refl _ _).alloc (Nat.le_refl _) _)).pull 3 rfl) (by with_unfolding_all rfl) (by with_unfolding_all rfl) (World.news_of_block (heap_alloc_new _ _)) rfl (fun v hv => by rw [List.mem_singleton.1 hv]; rfl) (by decide) (by unfold maxLen; omega) (by omega) (fun gA capA W13 H13 => ?_)))
        have h14 := (((H13.pull 2 rfl).tail.pull 1 rfl).pull 2 rfl)
        have H14 : Hid (St b w W13 (rd b R9 g9 :: ownI 147 2 (.slice (some ⟨gT, 0, none⟩) (l.length + 1) capT) (l ++ [t]).length (tvRow (l ++ [t])) :: ownI 3 1 (.slice (some ⟨gA, 0, none⟩) (ats.length + 1) capA) (ats ++ [R.place]).length (atRow (ats ++ [R.place])) :: [])) := Lib.hid (by
          rw [List.length_append, List.length_append, tvRow_snoc, atRow_snoc]; exact h14)
        clear h14
        go_roundg f
        case measure => omega
        case rel => exact ⟨l ++ [t], ats ++ [R.place], R9, g9, Hgo, hF9, Lib.hid (by have := HL.out; rw [List.length_append]; show l.length + 1 + f = _; omega), Lib.hid (by rw [List.length_append, List.length_append, HA.out]; rfl), H14⟩
      · -- the end
        by_cases h0 : n8 = 0
        · subst h0
          have hb0 : (((0 : Nat) : Int) != 0) = false := rfl
          go_wp2_with fail
          refine (zeros_e H8.out).mono ?_
          rintro e w9 ⟨ok, R9, e9, rfl, g9, h9⟩
          have H9 := Lib.hid h9
          have hM := tlvM_end1 (f := f) (l := l) (ats := ats) Hn.out E8.out (of_decide_eq_true Hcd.out).1 e9
          rw [← HM.out] at hM
          cases ok
          · have hne : R9.err ≠ none := fun h => by
              have := (zerosM_err (R := R8)).2 (by rw [e9]; exact h)
              rw [e9] at this; cases this
            obtain ⟨x, hx⟩ := Option.ne_none_iff_exists'.1 hne
            have He9 := Lib.hid (errV_some hx g9)
            have HMn := Lib.hid hM
            clear hM hne hx e9 h9
            go_wp2_with (first
              | ((with_reducible refine (err_st H9.out).mono ?_)
                 rintro e w10 ⟨rfl, rfl⟩
                 rw [He9.out]))
            go_returns
            exact ⟨TlvGot.none HMn.out, by rw [hb]; exact H9.out.below⟩
          · have HMs := Lib.hid hM
            clear hM e9 h9
            go_wp2_with fail
            go_returns
            refine ⟨?_, by rw [hb]; exact H9.out.below⟩
            have hT : w9.ownsRow 0 147 2 u7 (l.map Tv.vals).length (l.map Tv.vals).flatten := by rw [List.length_map]; exact H9.out.item (k := ownI 147 2 u7 l.length (tvRow l)) (List.mem_of_getElem? (i := 1) rfl)
            have hA : w9.ownsRow 0 3 1 u8 (ats.map fun (a : Nat) => [Value.int .i64 (a : Int)]).length (ats.map fun (a : Nat) => [Value.int .i64 (a : Int)]).flatten := by rw [List.length_map]; exact H9.out.item (k := ownI 3 1 u8 ats.length (atRow ats)) (List.mem_of_getElem? (i := 2) rfl)
            obtain ⟨A, c, rfl, hA1⟩ := own_sl hT (fun c hc => by obtain ⟨t, _, rfl⟩ := List.mem_map.1 hc; rfl)
            obtain ⟨A', c', rfl, hA2⟩ := own_sl hA (fun c hc => by obtain ⟨t, _, rfl⟩ := List.mem_map.1 hc; rfl)
            refine ⟨fun l2 ats2 z R2 h2 => ?_, fun R2 h2 => ?_⟩
            · rw [HMs.out] at h2
              obtain ⟨h3, _⟩ := Prod.mk.inj h2
              injection h3 with h3
              obtain ⟨rfl, h4⟩ := Prod.mk.inj h3
              obtain ⟨rfl, rfl⟩ := Prod.mk.inj h4
              exact ⟨A, c, A', c', by simp only [List.length_map], hA1, hA2⟩
            · rw [HMs.out] at h2
              cases (Prod.mk.inj h2).1
        · have hb0 : ((n8 : Int) != 0) = true := by rw [bne_iff_ne]; omega
          have hM := tlvM_end0 (f := f) (l := l) (ats := ats) Hn.out E8.out Hcd.out h0
          rw [← HM.out] at hM
          have hr8 : R8.err = none := (of_decide_eq_true Hcd.out).1
          have HMn := Lib.hid hM
          have hfm : failM R8 3 (R.place : Int) = { R8 with err := some (3, (R.place : Int)) } := failM_new hr8 _ _
          have Hfm := Lib.hid hfm
          clear hM h0 hr8 hfm
          go_wp2_with (first
            | ((with_reducible refine (fail_st H8.out 3 _).mono ?_)
               rintro e w9 ⟨rfl, g9, h9⟩
               have H9 := Lib.hid h9
               clear h9))
          refine (zeros_e H9.out).mono ?_
          rintro e w10 ⟨ok, R10, e10, rfl, g10, h10⟩
          have hz : zerosM (failM R8 3 (R.place : Int)) = (false, failM R8 3 (R.place : Int)) := zerosM_had (x := (3, (R.place : Int))) (by rw [Hfm.out])
          rw [hz] at e10
          obtain ⟨rfl, rfl⟩ := Prod.mk.inj e10
          have H10 := Lib.hid h10
          have He10 := Lib.hid (errV_some (R := failM R8 3 (R.place : Int)) (x := (3, (R.place : Int))) (by rw [Hfm.out]) g10)
          clear e10 h10 hz H9
          go_wp2_with (first
            | ((with_reducible refine (err_st H10.out).mono ?_)
               rintro e w11 ⟨rfl, rfl⟩
               rw [He10.out]))
          go_returns
          exact ⟨TlvGot.none HMn.out, by rw [hb]; exact H10.out.below⟩
end Go.Proofs.YteibhcocldihbaaDoor
