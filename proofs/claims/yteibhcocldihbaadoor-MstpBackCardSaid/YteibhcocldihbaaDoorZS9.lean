/- Types, lengths and texts, as plain data: what is written, what is read. No program in sight. tlv: Right, Write. tlv.Read, whatever is read. mstp.Read, whatever is read. (Printed by tools/mkmst6.py.) -/
import Derived.Test.YteibhcocldihbaaDoorZS1
import Derived.Test.YteibhcocldihbaaDoorZS7
import Derived.Test.YteibhcocldihbaaDoorZS3
import Derived.Test.YteibhcocldihbaaDoorZS2
import Derived.Test.YteibhcocldihbaaDoorZS4
import Derived.Test.YteibhcocldihbaaDoorZS8
set_option linter.all false
namespace Go.Proofs.YteibhcocldihbaaDoor
structure Tv where
  typ : Int
  text : List UInt8
deriving DecidableEq, Inhabited
def Tv.okB (t : Tv) : Bool := decide (1 ≤ t.typ) && (decide (t.typ ≤ 127) && decide (t.text.length ≤ 511))
theorem Tv.ok_iff {t : Tv} : t.okB = true ↔ 1 ≤ t.typ ∧ t.typ ≤ 127 ∧ t.text.length ≤ 511 := by simp [Tv.okB]
/-- One record as bytes. -/
def Tv.bytes (t : Tv) : List UInt8 := beBytes (t.typ.toNat * 512 + t.text.length) 2 ++ t.text
def tvBody (l : List Tv) : List UInt8 := l.flatMap Tv.bytes
def tvBytes (l : List Tv) : List UInt8 := tvBody l ++ [0, 0]
theorem tvBody_snoc (l : List Tv) (t : Tv) : tvBody (l ++ [t]) = tvBody l ++ t.bytes := by simp [tvBody]
theorem tvBody_append (l m : List Tv) : tvBody (l ++ m) = tvBody l ++ tvBody m := by simp [tvBody]
theorem Tv.bytes_len (t : Tv) : t.bytes.length = 2 + t.text.length := by simp [Tv.bytes, beBytes_len]
/-- Where each one begins. -/
def tvAts : Nat → List Tv → List Nat
  | _, [] => []
  | k, t :: l => k :: tvAts (k + 2 + t.text.length) l
theorem tvAts_len : ∀ (l : List Tv) (k : Nat), (tvAts k l).length = l.length
  | [], _ => rfl
  | t :: l, k => by simp [tvAts, tvAts_len l]
theorem tvAts_snoc : ∀ (l : List Tv) (t : Tv) (k : Nat), tvAts k (l ++ [t]) = tvAts k l ++ [k + (tvBody l).length]
  | [], t, k => by simp [tvAts, tvBody]
  | x :: l, t, k => by
    simp only [List.cons_append, tvAts, tvAts_snoc l t, tvBody, List.flatMap_cons, List.length_append, Tv.bytes_len]
    congr 3; omega
theorem tvAts_get : ∀ (l : List Tv) (k i : Nat) (h : i < l.length), (tvAts k l)[i]? = some (k + (tvBody (l.take i)).length)
  | t :: l, k, 0, _ => by simp [tvAts, tvBody]
  | t :: l, k, i + 1, h => by
    simp only [tvAts, List.getElem?_cons_succ, List.take_succ_cons]
    rw [tvAts_get l _ i (by simpa using h)]
    simp only [tvBody, List.flatMap_cons, List.length_append, Tv.bytes_len]
    congr 1; omega
/-- The loop that reads. -/
def tlvM : Nat → RS → List Tv → List Nat → Option (List Tv × List Nat × Nat) × RS
  | 0, R, _, _ => (none, R)
  | f + 1, R, l, ats => match R.err with
    | some _ => (none, R)
    | none => if (numM R 2).2.err = none ∧ (numM R 2).1 / 512 = 0 then
        let R2 := if (numM R 2).1 ≠ 0 then failM (numM R 2).2 3 (R.place : Int) else (numM R 2).2
        if (zerosM R2).1 = true then (some (l, ats, R.place), (zerosM R2).2) else (none, (zerosM R2).2)
      else tlvM f (bytesM (numM R 2).2 ((numM R 2).1 % 512)).2 (l ++ [⟨(((numM R 2).1 / 512 : Nat) : Int), (bytesM (numM R 2).2 ((numM R 2).1 % 512)).1⟩]) (ats ++ [R.place])
def readTlvM (s : List UInt8) : Option (List Tv × List Nat × Nat) × RS := tlvM (s.length + 1) (newM s 0) [] []
theorem tlvM_had {R : RS} {x : Int × Int} (h : R.err = some x) (f : Nat) (l : List Tv) (ats : List Nat) : tlvM f R l ats = (none, R) := by
  cases f with
  | zero => rfl
  | succ f => unfold tlvM; rw [h]
/-- What is read, told of a text that is known. -/
theorem tlvM_left : ∀ (m : List Tv) (f : Nat) (R : RS) (l : List Tv) (ats : List Nat) (pad : List UInt8), (∀ t ∈ m, t.okB = true) → m.length < f → R.Left (tvBody m ++ ([0, 0] ++ pad)) → (∀ c ∈ pad, c = 0) →
    ∃ R', tlvM f R l ats = (some (l ++ m, ats ++ tvAts R.place m, R.place + (tvBody m).length), R') ∧ R'.err = none
  | [], f + 1, R, l, ats, pad, _, _, hL, hz => by
    have h0 : R.Left ([0, 0] ++ pad) := by simpa [tvBody] using hL
    have hn : numM R 2 = (0, R.skip 2) := numM_left h0 rfl
    have h1 := h0.skip (n := 2) rfl
    have hz' := zerosM_left h1 hz
    refine ⟨{ R.skip 2 with at_ := (R.skip 2).s.length }, ?_, h1.none⟩
    unfold tlvM
    rw [h0.none]
    simp only [hn, h1.none, Nat.zero_div, and_self, if_true, ne_eq, not_true_eq_false, if_false, hz']
    simp [tvAts, tvBody, h1.none]
  | t :: m, f + 1, R, l, ats, pad, hm, hf, hL, hz => by
    obtain ⟨a, b, c⟩ := Tv.ok_iff.1 (hm t (List.mem_cons_self ..))
    have h0 : R.Left (beBytes (t.typ.toNat * 512 + t.text.length) 2 ++ (t.text ++ (tvBody m ++ ([0, 0] ++ pad)))) := by
      simpa [tvBody, Tv.bytes, List.append_assoc] using hL
    have hn : numM R 2 = (t.typ.toNat * 512 + t.text.length, R.skip 2) := numM_be h0 (by omega)
    have h1 := h0.skip (beBytes_len _ 2)
    have e1 : (t.typ.toNat * 512 + t.text.length) / 512 = t.typ.toNat := by omega
    have e2 : (t.typ.toNat * 512 + t.text.length) % 512 = t.text.length := by omega
    have hb := bytesM_left h1 (n := t.text.length) rfl
    have h2 := h1.skip (n := t.text.length) rfl
    obtain ⟨R', hR, hn'⟩ := tlvM_left m f ((R.skip 2).skip t.text.length) (l ++ [t]) (ats ++ [R.place]) pad (fun x hx => hm x (List.mem_cons_of_mem _ hx)) (by simpa using hf) h2 hz
    refine ⟨R', ?_, hn'⟩
    unfold tlvM
    rw [h0.none]
    simp only [hn, e1, e2, hb]
    rw [if_neg (by omega), show ((t.typ.toNat : Nat) : Int) = t.typ by omega, hR]
    have e3 : ((R.skip 2).skip t.text.length).place = R.place + 2 + t.text.length := by simp [RS.place, RS.skip]; omega
    simp only [e3, List.append_assoc, List.singleton_append, tvAts, tvBody, List.flatMap_cons, List.length_append, Tv.bytes_len]
    refine Prod.ext (congrArg some (Prod.ext rfl (Prod.ext rfl ?_))) rfl
    simp only []
    omega
/-- What was read stood there. -/
theorem tlvM_back : ∀ (f : Nat) (R R' : RS) (l : List Tv) (ats : List Nat) (out : List Tv) (oa : List Nat) (e : Nat), R.ok → tlvM f R l ats = (some (out, oa, e), R') →
    ∃ m pad, out = l ++ m ∧ oa = ats ++ tvAts R.place m ∧ e = R.place + (tvBody m).length ∧ R.Left (tvBody m ++ ([0, 0] ++ pad)) ∧ ∀ t ∈ m, t.okB = true
  | 0, R, R', l, ats, out, oa, e, _, h => by simp [tlvM] at h
  | f + 1, R, R', l, ats, out, oa, e, hok, h => by
    unfold tlvM at h
    cases he : R.err with
    | some x => rw [he] at h; simp at h
    | none =>
      rw [he] at h
      simp only [] at h
      split at h
      · rename_i hc
        obtain ⟨c, rest, h1, h2, h3, h4⟩ := numM_back hok hc.1
        rw [h3] at h hc
        simp only [] at h hc
        by_cases hz : beNum c = 0
        · simp only [hz, ne_eq, not_true_eq_false, if_false] at h
          split at h
          · rename_i hz1
            injection h with h5 h6
            injection h5 with h5
            injection h5 with h7 h8
            injection h8 with h8 h9
            obtain ⟨pad, hp, hp0, _⟩ := zerosM_back h4.ok hz1
            have hr : rest = pad := h4.left.symm.trans hp.left
            have hc0 : c = [0, 0] := by
              have : beNum c = beNum [0, 0] := by rw [hz]; rfl
              exact beNum_inj _ _ (by rw [h1]; rfl) this
            subst hr hc0
            refine ⟨[], rest, by simp [h7], by simp [tvAts, h8], by simp [tvBody, h9], by simpa [tvBody] using h2, by simp⟩
          · simp at h
        · simp only [ne_eq, hz, not_false_eq_true, if_true] at h
          split at h
          · rename_i hz1
            have := zerosM_back (h4.ok.fail 3 _) hz1
            obtain ⟨rest', hL, _⟩ := this
            exact (failM_back hL.none).elim
          · simp at h
      · rename_i hc
        by_cases hn : (numM R 2).2.err = none
        · obtain ⟨c, rest, h1, h2, h3, h4⟩ := numM_back hok hn
          rw [h3] at h hc
          simp only [] at h hc
          have hlt : beNum c < 65536 := by have := beNum_lt c; rw [h1] at this; omega
          by_cases hb : (bytesM (R.skip 2) (beNum c % 512)).2.err = none
          · obtain ⟨x, rest', g1, g2, g3, g4⟩ := bytesM_back h4.ok hb
            rw [g3] at h
            simp only [] at h
            obtain ⟨m, pad, k1, k2, k3, k4, k5⟩ := tlvM_back f _ R' _ _ out oa e g4.ok h
            have hr : rest = x ++ rest' := h4.left.symm.trans g2.left
            have hr' : rest' = tvBody m ++ ([0, 0] ++ pad) := g4.left.symm.trans k4.left
            have ht : (⟨((beNum c / 512 : Nat) : Int), x⟩ : Tv).okB = true := by
              rw [Tv.ok_iff]
              simp only []
              have hc' : ¬ beNum c / 512 = 0 := fun e => hc ⟨h4.none, e⟩
              omega
            have hbe : beBytes (beNum c / 512 * 512 + x.length) 2 = c := by
              rw [g1, show beNum c / 512 * 512 + beNum c % 512 = beNum c by omega, ← h1]
              exact beBytes_beNum c
            have hby : (⟨((beNum c / 512 : Nat) : Int), x⟩ : Tv).bytes = c ++ x := by
              unfold Tv.bytes
              simp only [Int.toNat_natCast]
              rw [hbe]
            have e3 : ((R.skip 2).skip (beNum c % 512)).place = R.place + 2 + x.length := by simp [RS.place, RS.skip, g1]; omega
            refine ⟨⟨((beNum c / 512 : Nat) : Int), x⟩ :: m, pad, by simp [k1], ?_, ?_, ?_, ?_⟩
            · rw [k2, e3]; simp [tvAts]
            · rw [k3, e3]; simp only [tvBody, List.flatMap_cons, List.length_append, Tv.bytes_len]; omega
            · have e4 : tvBody (⟨((beNum c / 512 : Nat) : Int), x⟩ :: m) = (c ++ x) ++ tvBody m := by simp only [tvBody, List.flatMap_cons, hby]
              rw [e4, List.append_assoc, List.append_assoc, ← hr', ← hr]
              exact h2
            · intro t htm
              rcases List.mem_cons.1 htm with rfl | htm
              · exact ht
              · exact k5 t htm
          · obtain ⟨y, hy⟩ := Option.ne_none_iff_exists'.1 hb
            rw [tlvM_had hy] at h; simp at h
        · obtain ⟨y, hy⟩ := Option.ne_none_iff_exists'.1 hn
          have hb : (bytesM (numM R 2).2 ((numM R 2).1 % 512)).2.err = some y := by rw [bytesM_had hy]; exact hy
          rw [tlvM_had hb] at h; simp at h
end Go.Proofs.YteibhcocldihbaaDoor
namespace Go.Proofs.YteibhcocldihbaaDoor
open Go.RowKit
def Tv.vals (t : Tv) : List Value := [.int .i64 t.typ, .string ⟨t.text.toArray⟩]
@[reducible] def zTv : List Value := [.int .i64 0, .string ByteArray.empty]
theorem Tv.one (t : Tv) : ∀ v ∈ t.vals, v.oneCell' = true := fun v hv => by
  simp only [Tv.vals, List.mem_cons, List.not_mem_nil, or_false] at hv
  rcases hv with rfl | rfl <;> rfl
theorem info147 : (Tryd.prog.info? 147).map (·.size) = some 2 := by kernel_rfl
theorem info132 : (Tryd.prog.info? 132).map (·.size) = some 2 := by kernel_rfl
theorem tv_or (k b : Nat) (hb : b < 512) (hk : k < 128) : bits .or .i64 ((512 * k : Nat) : Int) (b : Int) = ((512 * k + b : Nat) : Int) := by
  have hx : 512 * k ||| b = 512 * k + b := by
    have := Nat.two_pow_add_eq_or_of_lt (i := 9) (b := b) hb k
    rw [show (512 : Nat) = 2 ^ 9 by rfl, this]
  have h1 : (BitVec.ofInt 64 ((512 * k : Nat) : Int)).toNat = 512 * k := by rw [BitVec.ofInt_natCast, BitVec.toNat_ofNat]; exact Nat.mod_eq_of_lt (by omega)
  have h2 : (BitVec.ofInt 64 (b : Int)).toNat = b := by rw [BitVec.ofInt_natCast, BitVec.toNat_ofNat]; exact Nat.mod_eq_of_lt (by omega)
  show IntKind.i64.wrap ((BitVec.ofInt 64 ((512 * k : Nat) : Int) ||| BitVec.ofInt 64 (b : Int)).toNat : Int) = _
  rw [BitVec.toNat_or, h1, h2, hx, IntKind.wrap_i64]
  omega
set_option maxRecDepth 100000 in
set_option maxHeartbeats 1000000 in
theorem tlvRight_any (t : Tv) (w : World) :
    Calls Tryd.prog 129 #[.agg t.vals.toArray] w fun e w' => e = .returned (.bool t.okB) ∧ Below w.heap.size w w' := by
  obtain ⟨ty, tx⟩ := t
  simp only [Tv.vals]
  by_cases h1 : 1 ≤ ty
  · by_cases h2 : ty ≤ 127
    · by_cases h3 : tx.length ≤ 511
      · have h3' : (tx.length : Int) ≤ 511 := by omega
        go_enter Tryd.func129, Tryd.ntmps129
        go_wp2_with fail
        go_ret
        exact ⟨by unfold Tv.okB; simp [*], by go_grown⟩
      · have h3' : ¬ (tx.length : Int) ≤ 511 := by omega
        go_enter Tryd.func129, Tryd.ntmps129
        go_wp2_with fail
        go_ret
        exact ⟨by unfold Tv.okB; simp [*] <;> intros <;> omega, by go_grown⟩
    · go_enter Tryd.func129, Tryd.ntmps129
      go_wp2_with fail
      go_ret
      exact ⟨by unfold Tv.okB; simp [*] <;> intros <;> omega, by go_grown⟩
  · go_enter Tryd.func129, Tryd.ntmps129
    go_wp2_with fail
    go_ret
    exact ⟨by unfold Tv.okB; simp [*] <;> intros <;> omega, by go_grown⟩
theorem tvBody_take {L : List Tv} {k : Nat} (h : k < L.length) : tvBody (L.take (k + 1)) = tvBody (L.take k) ++ (L[k]).bytes := by
  rw [List.take_succ_eq_append_getElem h, tvBody_snoc]
theorem tvBody_ok_le (L : List Tv) : ∀ k, k ≤ L.length → (∀ j (hj : j < L.length), j < k → L[j].okB = true) → (tvBody (L.take k)).length ≤ 513 * k
  | 0, _, _ => by simp [tvBody]
  | k + 1, hk, h => by
    rw [tvBody_take (show k < L.length by omega), List.length_append, Tv.bytes_len]
    have := tvBody_ok_le L k (by omega) (fun j hj hjk => h j hj (by omega))
    have h2 := (Tv.ok_iff.1 (h k (by omega) (by omega))).2.2
    omega
set_option maxRecDepth 100000 in
set_option maxHeartbeats 2000000 in
theorem tlvWrite_any (L : List Tv) (A : Option Addr) (cap : Nat) (w : World) (hr : SlRow w w.heap.size 2 A (L.map Tv.vals)) (hn63 : L.length ≤ 100000) :
    Calls Tryd.prog 89 #[.slice A L.length cap] w fun e w' => ((∀ t ∈ L, t.okB = true) → e = .returned (.tuple #[.string ⟨(tvBytes L).toArray⟩, .nilIface])) ∧ ((∃ t ∈ L, t.okB = false) → ∃ g, e = .returned (.tuple #[.string ⟨#[]⟩, .iface 130 (.pointer (some ⟨g, 0, none⟩))])) ∧ Below w.heap.size w w' := by
  obtain ⟨n, hlen⟩ : ∃ n, L.length = n := ⟨_, rfl⟩
  rw [hlen] at hn63 ⊢
  have Hr := Lib.hid hr
  have Hlen := Lib.hid hlen
  have hMust := fun (x : Nat) (hx : x < 65536) W => must_ok x 2 (by decide) (by decide) (by omega) W
  have HM := Lib.hid hMust
  clear hr hlen hMust
  have H1 := Lib.hid (St.init w).sb_new
  go_enter Tryd.func89, Tryd.ntmps89
  go_upto_region 2 with (fail)
  generalize World.alloc _ _ = w1 at *
  generalize hb0 : w.heap.size = b at *
  go_upto_region 3 with (fail)
  go_loopw [5, 6, 9] (fun _ _ i wr => ∃ (k : Nat) (v : Value), k ≤ n ∧ i = .int .i64 k ∧ Hid (∀ j (hj : j < L.length), j < k → L[j].okB = true) ∧ Hid (St b w wr (sb b b v (tvBody (L.take k)) :: []))) (fun _ _ i _ => n - (intOf i).toNat)
  case atStart => exact ⟨0, _, by omega, rfl, Lib.hid (fun j _ h => by omega), H1⟩
  case round =>
    obtain ⟨k, v, hk, rfl, Hok, HS⟩ := hrel
    by_cases hlt : k < n
    · have hkx : k < L.length := by rw [Hlen.out]; exact hlt
      obtain ⟨g, o, rfl, hg, hc⟩ := Hr.out (by rw [List.length_map]; omega)
      have hc1 := hc k (by rw [List.length_map]; exact hkx)
      have e1 : (L.map Tv.vals)[k]'(by rw [List.length_map]; exact hkx) = L[k].vals := by simp
      rw [e1] at hc1
      have Hc1 := Lib.hid (rangeAt_below hc1 HS.out.below hg)
      have hstep := tvBody_take hkx
      have hl1 := tvBody_ok_le L k (by omega) Hok.out
      have hmem : L[k] ∈ L := List.getElem_mem hkx
      have hnext : L[k].okB = true → ∀ j (hj : j < L.length), j < k + 1 → L[j].okB = true := fun h j hj hjk => by
        by_cases e : j = k
        · subst e; exact h
        · exact Hok.out j hj (by omega)
      have Hnext := Lib.hid hnext
      have Hstep := Lib.hid hstep
      have Hmem := Lib.hid hmem
      clear hc hc1 e1 hnext hstep hmem
      generalize L[k] = t at *
      have HT := Lib.hid fun W => tlvRight_any t W
      go_upto_region 5 with (first
        | ((with_reducible refine wpList_load_rng (ty := 147) (b := ?b1) (o := ?o1) (ds := ?ds1) t.vals ?hx1 ?hB1 ?hu1 ?hd1 ?hi1 ?hk1)
           case hx1 => rfl
           case hB1 => exact Hc1.out
           case hu1 => exact Tryd.underlying147
           case hd1 => rfl
           case hi1 => exact info147)
        | ((with_reducible refine wpList_store_blk (ty := 147) (b := ?b2) (o := ?o2) (t := 147) zTv t.vals ?hx2 ?hy2 ?hB2 ?ho2 ?hi2 ?h12 ?hk2)
           case hx2 => rfl
           case hy2 => rfl
           case hB2 => exact Blk.new wr zTv 147
           case ho2 => exact Nat.le_refl _
           case hi2 => exact info147
           case h12 => exact (Tv.one _)
           intro W4 hBW4 hoW4))
      have H4 : Hid (St b w W4 (bk wr.heap.size 147 t.vals :: sb b b v (tvBody (L.take k)) :: [])) := Lib.hid ((HS.out.alloc zTv 147).sets (L' := t.vals) hBW4 hoW4)
      clear hBW4 hoW4 HS
      generalize wr.heap.size = P at *
      have B4 := Lib.hid (Blk.box (H4.out.at 0 rfl))
      cases hto : t.okB
      · have HTo := Lib.hid hto
        clear hto
        go_wp2_with (first
          | ((with_reducible refine wpList_load_box (ty := 147) (b := ?b3) (ds := ?ds3) t.vals ?hx3 ?hB3 ?hu3 ?hd3 ?hi3 ?hk3)
             case hx3 => rfl
             case hB3 => exact B4.out
             case hu3 => exact Tryd.underlying147
             case hd3 => rfl
             case hi3 => exact info147)
          | ((with_reducible refine (HT.out _).mono ?_)
             rintro e w5 ⟨rfl, hb5⟩
             rw [HTo.out]
             have H5 := Lib.hid (H4.out.ext hb5)
             clear hb5))
        go_ret2
        refine ⟨fun h => ?_, fun _ => ⟨_, rfl⟩, ?_⟩
        · have := h t Hmem.out; rw [HTo.out] at this; cases this
        · rw [hb0]; exact H5.out.below.alloc H5.out.le _
      · obtain ⟨a1, a2, a3⟩ := Tv.ok_iff.1 hto
        have HTo := Lib.hid hto
        clear hto
        go_upto_region 7 with (first
          | ((with_reducible refine wpList_load_box (ty := 147) (b := ?b5) (ds := ?ds5) t.vals ?hx5 ?hB5 ?hu5 ?hd5 ?hi5 ?hk5)
             case hx5 => rfl
             case hB5 => exact B4.out
             case hu5 => exact Tryd.underlying147
             case hd5 => rfl
             case hi5 => exact info147)
          | ((with_reducible refine (HT.out _).mono ?_)
             rintro e w5 ⟨rfl, hb5⟩
             rw [HTo.out]
             have H5 := Lib.hid (H4.out.ext hb5)
             clear hb5))
        have hbt : t.bytes = beBytes (512 * t.typ.toNat + t.text.length) 2 ++ t.text := by unfold Tv.bytes; rw [Nat.mul_comm]
        have Hbt := Lib.hid hbt
        clear hbt
        obtain ⟨ty, tx⟩ := t
        simp only [] at a1 a2 a3 Hbt
        obtain ⟨m, rfl⟩ := Int.eq_ofNat_of_zero_le (show 0 ≤ ty by omega)
        rw [Int.toNat_natCast] at Hbt
        have hsh : wrap64 ((m : Int) * 512) = ((512 * m : Nat) : Int) := by unfold wrap64; omega
        have hsh2 : IntKind.i64.wrap ((m : Int) * 512) = ((512 * m : Nat) : Int) := by rw [IntKind.wrap_i64]; omega
        have hor := tv_or m tx.length (by omega) (by omega)
        have HMm := Lib.hid (HM.out (512 * m + tx.length) (by omega))
        have hlb : (beBytes (512 * m + tx.length) 2).length = 2 := beBytes_len _ _
        generalize (512 * m + tx.length) = q at *
        generalize (512 * m : Nat) = p at *
        generalize beBytes q 2 = Bq at *
        have hS0 : w5.cell? ⟨P, 0, none⟩ = some (.int .i64 (m : Int)) ∧ w5.cell? ⟨P, 1, none⟩ = some (.string ⟨tx.toArray⟩) := ⟨H5.out.cell 0, H5.out.cell 1⟩
        clear HT B4 H4 Hc1
        refine wp_region_last (fun X => X.cell? ⟨P, 0, none⟩ = some (.int .i64 (m : Int)) ∧ X.cell? ⟨P, 1, none⟩ = some (.string ⟨tx.toArray⟩)) 11 (by kernel_rfl) hS0 (fun hHeld => ?_)
        refine wpAnyG_takeG 0 (oi := ?o8) ?v8 ?hi8 (by kernel_rfl) (by kernel_rfl) (by decide) (by kernel_rfl) (by kernel_rfl) ?hq8 ?hg8 ?hy8 (by assumption) ?hk8
        case hi8 => (simp only [List.getElem?_toArray, List.getElem?_cons_succ, List.getElem?_cons_zero]; rfl)
        case hq8 => exact fun _ _ _ h => h
        case hg8 => (first | with_unfolding_all rfl | (go_simp; with_unfolding_all rfl))
        case hy8 => (intro X hX; (first | obtain ⟨hXa, hXb, hXc, hXd, hXe⟩ := hX | obtain ⟨hXa, hXb, hXc, hXd⟩ := hX | obtain ⟨hXa, hXb, hXc⟩ := hX | obtain ⟨hXa, hXb⟩ := hX | skip); go_simp; try with_reducible rfl)
        try simp only [Act.put, List.setIfInBounds_toArray, List.set_cons_zero, List.set_cons_succ]
        refine wpAnyG_takeG 3 (oi := ?o9) ?v9 ?hi9 (by kernel_rfl) (by kernel_rfl) (by decide) (by kernel_rfl) (by kernel_rfl) ?hq9 ?hg9 ?hy9 (by assumption) ?hk9
        case hi9 => (simp only [List.getElem?_toArray, List.getElem?_cons_succ, List.getElem?_cons_zero]; rfl)
        case hq9 => exact fun _ _ _ h => h
        case hg9 => (first | with_unfolding_all rfl | (go_simp; with_unfolding_all rfl))
        case hy9 => (intro X hX; (first | obtain ⟨hXa, hXb, hXc, hXd, hXe⟩ := hX | obtain ⟨hXa, hXb, hXc, hXd⟩ := hX | obtain ⟨hXa, hXb, hXc⟩ := hX | obtain ⟨hXa, hXb⟩ := hX | skip); go_simp; try with_reducible rfl)
        try simp only [Act.put, List.setIfInBounds_toArray, List.set_cons_zero, List.set_cons_succ]
        refine wpAnyG_takeG 8 (oi := ?o10) ?v10 ?hi10 (by kernel_rfl) (by kernel_rfl) (by decide) (by kernel_rfl) (by kernel_rfl) ?hq10 ?hg10 ?hy10 (by assumption) ?hk10
        case hi10 => (simp only [List.getElem?_toArray, List.getElem?_cons_succ, List.getElem?_cons_zero]; rfl)
        case hq10 => exact fun _ _ _ h => h
        case hg10 => (first | with_unfolding_all rfl | (go_simp; with_unfolding_all rfl))
        case hy10 => (intro X hX; (first | obtain ⟨hXa, hXb, hXc, hXd, hXe⟩ := hX | obtain ⟨hXa, hXb, hXc, hXd⟩ := hX | obtain ⟨hXa, hXb, hXc⟩ := hX | obtain ⟨hXa, hXb⟩ := hX | skip); go_simp; try with_reducible rfl)
        try simp only [Act.put, List.setIfInBounds_toArray, List.set_cons_zero, List.set_cons_succ]
        refine wpAnyG_takeG 1 (oi := ?o11) ?v11 ?hi11 (by kernel_rfl) (by kernel_rfl) (by decide) (by kernel_rfl) (by kernel_rfl) ?hq11 ?hg11 ?hy11 (by assumption) ?hk11
        case hi11 => (simp only [List.getElem?_toArray, List.getElem?_cons_succ, List.getElem?_cons_zero]; rfl)
        case hq11 => exact fun _ _ _ h => h
        case hg11 => (first | with_unfolding_all rfl | (go_simp; with_unfolding_all rfl))
        case hy11 => (intro X hX; (first | obtain ⟨hXa, hXb, hXc, hXd, hXe⟩ := hX | obtain ⟨hXa, hXb, hXc, hXd⟩ := hX | obtain ⟨hXa, hXb, hXc⟩ := hX | obtain ⟨hXa, hXb⟩ := hX | skip); go_simp; try with_reducible rfl)
        try simp only [Act.put, List.setIfInBounds_toArray, List.set_cons_zero, List.set_cons_succ]
        refine wpAnyG_takeG 4 (oi := ?o12) ?v12 ?hi12 (by kernel_rfl) (by kernel_rfl) (by decide) (by kernel_rfl) (by kernel_rfl) ?hq12 ?hg12 ?hy12 (by assumption) ?hk12
        case hi12 => (simp only [List.getElem?_toArray, List.getElem?_cons_succ, List.getElem?_cons_zero]; rfl)
        case hq12 => exact fun _ _ _ h => h
        case hg12 => (first | with_unfolding_all rfl | (go_simp; with_unfolding_all rfl))
        case hy12 => (intro X hX; (first | obtain ⟨hXa, hXb, hXc, hXd, hXe⟩ := hX | obtain ⟨hXa, hXb, hXc, hXd⟩ := hX | obtain ⟨hXa, hXb, hXc⟩ := hX | obtain ⟨hXa, hXb⟩ := hX | skip); go_simp; try with_reducible rfl)
        try simp only [Act.put, List.setIfInBounds_toArray, List.set_cons_zero, List.set_cons_succ]
        refine wpAnyG_takeG 9 (oi := ?o13) ?v13 ?hi13 (by kernel_rfl) (by kernel_rfl) (by decide) (by kernel_rfl) (by kernel_rfl) ?hq13 ?hg13 ?hy13 (by assumption) ?hk13
        case hi13 => (simp only [List.getElem?_toArray, List.getElem?_cons_succ, List.getElem?_cons_zero]; rfl)
        case hq13 => exact fun _ _ _ h => h
        case hg13 => (first | with_unfolding_all rfl | (go_simp; with_unfolding_all rfl))
        case hy13 => (intro X hX; (first | obtain ⟨hXa, hXb, hXc, hXd, hXe⟩ := hX | obtain ⟨hXa, hXb, hXc, hXd⟩ := hX | obtain ⟨hXa, hXb, hXc⟩ := hX | obtain ⟨hXa, hXb⟩ := hX | skip); go_simp; try with_reducible rfl)
        try simp only [Act.put, List.setIfInBounds_toArray, List.set_cons_zero, List.set_cons_succ]
        refine wpAnyG_takeG 2 (oi := ?o14) ?v14 ?hi14 (by kernel_rfl) (by kernel_rfl) (by decide) (by kernel_rfl) (by kernel_rfl) ?hq14 ?hg14 ?hy14 (by assumption) ?hk14
        case hi14 => (simp only [List.getElem?_toArray, List.getElem?_cons_succ, List.getElem?_cons_zero]; rfl)
        case hq14 => exact fun _ _ _ h => h
        case hg14 => (first | with_unfolding_all rfl | (go_simp; with_unfolding_all rfl))
        case hy14 => (intro X hX; (first | obtain ⟨hXa, hXb, hXc, hXd, hXe⟩ := hX | obtain ⟨hXa, hXb, hXc, hXd⟩ := hX | obtain ⟨hXa, hXb, hXc⟩ := hX | obtain ⟨hXa, hXb⟩ := hX | skip); go_simp; try with_reducible rfl)
        try simp only [Act.put, List.setIfInBounds_toArray, List.set_cons_zero, List.set_cons_succ]
        refine wpAnyG_takeG 5 (oi := ?o15) ?v15 ?hi15 (by kernel_rfl) (by kernel_rfl) (by decide) (by kernel_rfl) (by kernel_rfl) ?hq15 ?hg15 ?hy15 (by assumption) ?hk15
        case hi15 => (simp only [List.getElem?_toArray, List.getElem?_cons_succ, List.getElem?_cons_zero]; rfl)
        case hq15 => exact fun _ _ _ h => h
        case hg15 => (first | with_unfolding_all rfl | (go_simp; with_unfolding_all rfl))
        case hy15 => (intro X hX; (first | obtain ⟨hXa, hXb, hXc, hXd, hXe⟩ := hX | obtain ⟨hXa, hXb, hXc, hXd⟩ := hX | obtain ⟨hXa, hXb, hXc⟩ := hX | obtain ⟨hXa, hXb⟩ := hX | skip); go_simp; try with_reducible rfl)
        try simp only [Act.put, List.setIfInBounds_toArray, List.set_cons_zero, List.set_cons_succ]
        refine wpAnyG_takeG 6 (oi := ?o16) ?v16 ?hi16 (by kernel_rfl) (by kernel_rfl) (by decide) (by kernel_rfl) (by kernel_rfl) ?hq16 ?hg16 ?hy16 (by assumption) ?hk16
        case hi16 => (simp only [List.getElem?_toArray, List.getElem?_cons_succ, List.getElem?_cons_zero]; rfl)
        case hq16 => exact fun _ _ _ h => h
        case hg16 => (first | with_unfolding_all rfl | (go_simp; with_unfolding_all rfl))
        case hy16 => (intro X hX; (first | obtain ⟨hXa, hXb, hXc, hXd, hXe⟩ := hX | obtain ⟨hXa, hXb, hXc, hXd⟩ := hX | obtain ⟨hXa, hXb, hXc⟩ := hX | obtain ⟨hXa, hXb⟩ := hX | skip); go_simp; try with_reducible rfl)
        try simp only [Act.put, List.setIfInBounds_toArray, List.set_cons_zero, List.set_cons_succ]
        refine wpAnyG_one 7 (o := ?o17) (by kernel_rfl) ?hi17 ?hg17 ?hk17
        case hi17 => (simp only [List.getElem?_toArray, List.getElem?_cons_succ, List.getElem?_cons_zero]; rfl)
        case hg17 => rfl
        intro K hK
        go_simp
        refine (HMm.out _).mono ?_
        rintro e w6 ⟨rfl, hb6⟩
        have H6 := Lib.hid (H5.out.drew.ext hb6)
        have hS6 : w6.cell? ⟨P, 0, none⟩ = some (.int .i64 (m : Int)) ∧ w6.cell? ⟨P, 1, none⟩ = some (.string ⟨tx.toArray⟩) := ⟨H6.out.cell 0, H6.out.cell 1⟩
        refine hK.out _ _ (fun _ => hS6) (fun _ => ?_)
        clear hK K hHeld hb6
        have hHeld := hS6
        try simp only [Act.put, List.setIfInBounds_toArray, List.set_cons_zero, List.set_cons_succ]
        have hcat : ¬ 9223372036854775807 < 2 + tx.length := by omega
        refine wpAnyG_takeG 10 (oi := ?o19) ?v19 ?hi19 (by kernel_rfl) (by kernel_rfl) (by decide) (by kernel_rfl) (by kernel_rfl) ?hq19 ?hg19 ?hy19 (by assumption) ?hk19
        case hi19 => (simp only [List.getElem?_toArray, List.getElem?_cons_succ, List.getElem?_cons_zero]; rfl)
        case hq19 => exact fun _ _ _ h => h
        case hg19 => (first | with_unfolding_all rfl | (go_simp; with_unfolding_all rfl))
        case hy19 => (intro X hX; (first | obtain ⟨hXa, hXb, hXc, hXd, hXe⟩ := hX | obtain ⟨hXa, hXb, hXc, hXd⟩ := hX | obtain ⟨hXa, hXb, hXc⟩ := hX | obtain ⟨hXa, hXb⟩ := hX | skip); go_simp; try with_reducible rfl)
        try simp only [Act.put, List.setIfInBounds_toArray, List.set_cons_zero, List.set_cons_succ]
        refine wpAnyG_one 11 (o := ?o20) (by kernel_rfl) ?hi20 ?hg20 ?hk20
        case hi20 => (simp only [List.getElem?_toArray, List.getElem?_cons_succ, List.getElem?_cons_zero]; rfl)
        case hg20 => rfl
        intro K hK
        go_simp
        refine (bwrite_st H6.out.swap (Others.cons (bk_other (by decide)) Others.nil) (Bq ++ tx) (by rw [List.length_append]; omega)).mono ?_
        rintro e w7 ⟨rfl, v', h7⟩
        have h7 := h7.swap.tail
        rw [← Hbt.out, ← Hstep.out] at h7
        have H7 := Lib.hid h7
        refine hK.out _ _ (fun h => absurd rfl h) (fun _ => ?_)
        refine wpAnyG_done (by kernel_rfl) ?_ _
        clear hK K hHeld hS6 H6 h7
        go_wp2_with fail
        go_roundw
        case rel => exact ⟨k + 1, v', by omega, by go_num, Lib.hid (Hnext.out HTo.out), H7⟩
        case measure => simp [intOf]; omega
    · obtain rfl : k = n := by omega
      have ht : L.take k = L := List.take_of_length_le (by rw [Hlen.out]; exact Nat.le_refl _)
      rw [ht] at HS
      have hlB : (tvBody L).length ≤ 513 * k := by
        have := tvBody_ok_le L k (by rw [Hlen.out]; exact Nat.le_refl _) Hok.out
        rw [ht] at this; exact this
      have hall : ∀ t ∈ L, t.okB = true := fun t ht => by
        obtain ⟨j, hj, rfl⟩ := List.getElem_of_mem ht
        exact Hok.out j hj (by rw [Hlen.out] at hj; exact hj)
      have Hall := Lib.hid hall
      have Hw : Hid (tvBytes L = tvBody L ++ [0, 0]) := Lib.hid rfl
      clear hall ht hlt
      generalize tvBody L = BL at *
      go_wp2_with fail
      refine (bstring_st HS.out Others.nil).mono ?_
      rintro e w6 ⟨rfl, v', h6⟩
      have H6 := Lib.hid h6
      clear h6
      go_wp2_with fail
      go_ret2
      refine ⟨fun _ => by rw [Hw.out]; rfl, fun ⟨t, htm, hf⟩ => ?_, by rw [hb0]; exact H6.out.below⟩
      rw [Hall.out t htm] at hf; cases hf
end Go.Proofs.YteibhcocldihbaaDoor
namespace Go.Proofs.YteibhcocldihbaaDoor
open Go.RowKit
theorem elemTlv : ElemOk Tryd.prog 148 147 2 24 := by
  have h : (Tryd.prog.info? 147).map (fun i => (i.zero, i.size, i.bytes)) = some (some (.agg zTv.toArray), 2, 24) := by kernel_rfl
  obtain ⟨i, hi, hz, hs, hb⟩ := info_parts h
  exact ⟨Tryd.underlying148, i, _, hi, hz, hs, hb, rfl, by decide⟩
theorem elemAt : ElemOk Tryd.prog 163 3 1 8 := by
  have h : (Tryd.prog.info? 3).map (fun i => (i.zero, i.size, i.bytes)) = some (some (.int .i64 0), 1, 8) := by kernel_rfl
  obtain ⟨i, hi, hz, hs, hb⟩ := info_parts h
  exact ⟨Tryd.underlying163, i, _, hi, hz, hs, hb, rfl, by decide⟩
def tvRow (l : List Tv) : List Value := (l.map Tv.vals).flatten
def atRow (l : List Nat) : List Value := (l.map fun (a : Nat) => [Value.int .i64 (a : Int)]).flatten
theorem tvRow_snoc (l : List Tv) (t : Tv) : tvRow (l ++ [t]) = tvRow l ++ t.vals := by simp [tvRow]
theorem atRow_snoc (l : List Nat) (a : Nat) : atRow (l ++ [a]) = atRow l ++ [Value.int .i64 (a : Int)] := by simp [atRow]
/-- A row of one's own as a slice of rows. -/
theorem own_sl {w : World} {t size : Nat} {v : Value} {C : List (List Value)} (h : w.ownsRow 0 t size v C.length C.flatten) (hC : ∀ c ∈ C, c.length = size) : ∃ A cap, v = .slice A C.length cap ∧ SlRow w w.heap.size size A C := by
  obtain ⟨A, cap, hv, _, hr⟩ := own_row h hC rfl
  refine ⟨A, cap, hv, fun hn => ?_⟩
  obtain ⟨g, rfl, _, hg, hk⟩ := hr hn
  exact ⟨g, 0, rfl, hg, fun k hk' => by rw [Nat.zero_add]; exact hk k hk'⟩
theorem tv_and (n : Nat) (hn : n < 65536) : bits .and .i64 (n : Int) 511 = ((n % 512 : Nat) : Int) := by
  have e1 : (BitVec.ofInt 64 (n : Int)).toNat = n := by rw [BitVec.ofInt_natCast, BitVec.toNat_ofNat]; exact Nat.mod_eq_of_lt (by omega)
  show IntKind.i64.wrap ((BitVec.ofInt 64 (n : Int) &&& BitVec.ofInt 64 (511 : Int)).toNat : Int) = _
  rw [BitVec.toNat_and, e1, show (BitVec.ofInt 64 (511 : Int)).toNat = 2 ^ 9 - 1 by decide, Nat.and_two_pow_sub_one_eq_mod, IntKind.wrap_i64]
  omega
theorem tlv_built (x : Int) (l : List UInt8) : Tryd.prog.built 147 [(0, .int .i64 x), (1, .string ⟨l.toArray⟩)] = some (Tv.vals ⟨x, l⟩).toArray := by kernel_rfl
theorem tlvM_go {f : Nat} {R R2 R3 : RS} {n : Nat} {c : List UInt8} {l : List Tv} {ats : List Nat} (he : R.err = none) (hn : numM R 2 = (n, R2)) (hb : bytesM R2 (n % 512) = (c, R3)) (h : decide (R2.err = none ∧ n / 512 = 0) = false) :
    tlvM (f + 1) R l ats = tlvM f R3 (l ++ [⟨(n : Int) / 512, c⟩]) (ats ++ [R.place]) := by
  have h := of_decide_eq_false h
  conv => lhs; unfold tlvM
  rw [he]
  simp only [hn, hb]
  rw [if_neg h]
  rfl
theorem tlvM_end0 {f : Nat} {R R2 : RS} {n : Nat} {l : List Tv} {ats : List Nat} (he : R.err = none) (hn : numM R 2 = (n, R2)) (h : decide (R2.err = none ∧ n / 512 = 0) = true) (h0 : n ≠ 0) :
    tlvM (f + 1) R l ats = (none, failM R2 3 (R.place : Int)) := by
  have h := of_decide_eq_true h
  conv => lhs; unfold tlvM
  rw [he]
  simp only [hn]
  rw [if_pos h, if_pos h0]
  have hz : zerosM (failM R2 3 (R.place : Int)) = (false, failM R2 3 (R.place : Int)) := zerosM_had (x := (3, (R.place : Int))) (by rw [failM_new h.1])
  rw [hz]; rfl
theorem tlvM_end1 {f : Nat} {R R2 R3 : RS} {ok : Bool} {l : List Tv} {ats : List Nat} (he : R.err = none) (hn : numM R 2 = (0, R2)) (h : R2.err = none) (hz : zerosM R2 = (ok, R3)) :
    tlvM (f + 1) R l ats = (if ok = true then some (l, ats, R.place) else none, R3) := by
  conv => lhs; unfold tlvM
  rw [he]
  simp only [hn]
  have h2 : R2.err = none ∧ True := ⟨h, trivial⟩
  rw [if_pos h2]
  simp only [ne_eq, not_true_eq_false, if_false, hz]
  cases ok <;> rfl
/-- What Read hands back. -/
def TlvGot (s : List UInt8) (e : Ending) (w' : World) : Prop :=
  (∀ l ats z R, readTlvM s = (some (l, ats, z), R) → ∃ A c A' c', e = .returned (.tuple #[.slice A l.length c, .slice A' ats.length c', .int .i64 (z : Int), .nilIface]) ∧ SlRow w' w'.heap.size 2 A (l.map Tv.vals) ∧ SlRow w' w'.heap.size 1 A' (ats.map fun (a : Nat) => [Value.int .i64 (a : Int)])) ∧
  (∀ R, readTlvM s = (none, R) → ∃ g, e = .returned (.tuple #[.slice none 0 0, .slice none 0 0, .int .i64 0, .iface 130 (.pointer (some ⟨g, 0, none⟩))]))
theorem TlvGot.none {s : List UInt8} {R : RS} {g : Nat} {w' : World} (h : readTlvM s = (none, R)) : TlvGot s (.returned (.tuple #[.slice none 0 0, .slice none 0 0, .int .i64 0, .iface 130 (.pointer (some ⟨g, 0, none⟩))])) w' :=
  ⟨fun l ats z R' h' => (by rw [h] at h'; cases (Prod.mk.inj h').1), fun R' _ => ⟨g, rfl⟩⟩
set_option maxRecDepth 100000 in
set_option maxHeartbeats 4000000 in
theorem tlvRead_any (s : List UInt8) (hs : s.length ≤ 1000000) (w : World) :
    Calls Tryd.prog 98 #[.string ⟨s.toArray⟩] w fun e w' => TlvGot s e w' ∧ Below w.heap.size w w' := by
  have H0 := Lib.hid (St.init w)
  go_enter Tryd.func98, Tryd.ntmps98
  go_wp2_with fail
  refine (new_st H0.out s 0 (by omega)).mono ?_
  rintro e w1 ⟨rfl, h1⟩
  have H1 := Lib.hid (((h1.own0 3 1).own0 147 2).pull 2 rfl)
  clear h1 H0
  generalize hb : w.heap.size = b at *
  go_upto_region 4 with (fail)
  go_loopg [7, 8, 9, 10, 11] (s.length + 1) (fun gk s7 s8 _ _ _ wr => ∃ (l : List Tv) (ats : List Nat) (R : RS) (g : Nat), Hid (readTlvM s = tlvM gk R l ats) ∧ Hid (R.err = none → R.s.length - R.at_ < gk) ∧ Hid (l.length + gk = s.length + 1) ∧ Hid (ats.length = l.length) ∧ Hid (St b w wr (rd b R g :: ownI 147 2 s7 l.length (tvRow l) :: ownI 3 1 s8 ats.length (atRow ats) :: [])))
  case atStart => exact ⟨[], [], newM s 0, 0, Lib.hid rfl, Lib.hid (fun _ => by show s.length - 0 < _; omega), Lib.hid (by simp), Lib.hid rfl, H1⟩
  case round =>
    obtain ⟨l, ats, R, g, HM, HF, HL, HA, HS⟩ := hrel
    clear H1
    cases he : R.err with
    | some x =>
      have hM : readTlvM s = (none, R) := by rw [HM.out, tlvM_had he]
      have HM' := Lib.hid hM
      have He := Lib.hid (errV_some he g)
      clear he hM
      go_wp2_with (first
        | ((with_reducible refine (err_st HS.out).mono ?_)
           rintro e w6 ⟨rfl, rfl⟩
           rw [He.out])
        | ((with_reducible refine (err_st HS.out).mono ?_)
           rintro e w7 ⟨rfl, rfl⟩
           rw [He.out]))
      go_returns
      exact ⟨TlvGot.none HM'.out, by rw [hb]; exact HS.out.below⟩
    | none =>
      obtain ⟨f, rfl⟩ : ∃ f, gk = f + 1 := ⟨gk - 1, by have := HF.out he; omega⟩
      have He := Lib.hid (errV_none he g)
      have Hn := Lib.hid he
      go_wp2_with (first
        | ((with_reducible refine (err_st HS.out).mono ?_)
           rintro e w6 ⟨rfl, rfl⟩
           rw [He.out]))
      refine (at_st HS.out).mono ?_
      rintro e w7 ⟨rfl, h7⟩
      have H7 := Lib.hid h7
      have hok := h7.rdp.ok
      clear h7 HS he
      go_wp2_with fail
      refine (num_e H7.out 2 (by decide) (by decide)).mono ?_
      rintro e w8 ⟨n8, R8, e8, l8, rfl, g8, h8⟩
      have E8 := Lib.hid e8
      have H8 := Lib.hid h8
      clear e8 h8 H7
      have hF8 : Hid (R8.err = none → R8.s.length - R8.at_ < f) := Lib.hid (fun h8 => by
        have hf := HF.out Hn.out
        have e8 := E8.out
        unfold numM at e8
        obtain ⟨c, rest, h1, h2, h3, h4⟩ := bytesM_back hok (n := 2) (by rw [(Prod.mk.inj e8).2]; exact h8)
        have hR8 : R8 = R.skip 2 := by rw [← (Prod.mk.inj e8).2, h3]
        rw [hR8]
        have hl := h2.len
        rw [List.length_append, h1] at hl
        show R.s.length - (R.at_ + 2) < f
        omega)
      go_upto_region 7 with (fail)
      obtain ⟨cond, hcd⟩ : ∃ c, decide (R8.err = none ∧ n8 / 512 = 0) = c := ⟨_, rfl⟩
      have Hcd := Lib.hid hcd
      clear hcd
      go_cut [28] (fun c wx => c = .bool cond ∧ wx = w8)
      case first =>
        cases hr : R8.err with
        | some x =>
          obtain rfl : cond = false := by rw [← Hcd.out, hr]; simp
          have He8 := Lib.hid (errV_some hr g8)
          clear hr
          go_wp2_with (first
            | ((with_reducible refine (err_st H8.out).mono ?_)
               rintro e w9 ⟨rfl, rfl⟩
               rw [He8.out]))
          go_meet
          exact ⟨rfl, rfl⟩
        | none =>
          have He8 := Lib.hid (errV_none hr g8)
          by_cases h0 : n8 / 512 = 0
          · obtain rfl : cond = true := by rw [← Hcd.out, hr]; simp [h0]
            have hI : ((n8 : Int) / 512 == 0) = true := by rw [beq_iff_eq]; omega
            clear hr h0
            go_wp2_with (first
              | ((with_reducible refine (err_st H8.out).mono ?_)
                 rintro e w9 ⟨rfl, rfl⟩
                 rw [He8.out]))
            go_meet
            exact ⟨rfl, rfl⟩
          · obtain rfl : cond = false := by rw [← Hcd.out]; simp [h0]
            have hI : ((n8 : Int) / 512 == 0) = false := by rw [beq_eq_false_iff_ne]; omega
            clear hr h0
            go_wp2_with (first
              | ((with_reducible refine (err_st H8.out).mono ?_)
                 rintro e w9 ⟨rfl, rfl⟩
                 rw [He8.out]))
            go_meet
            exact ⟨rfl, rfl⟩
      case rest =>
      obtain ⟨rfl, rfl⟩ := hcut
      go_upto_if 28 with (fail)
      cases cond
      · -- a record
        have hand := tv_and n8 (by omega)
        have hmm : n8 % 512 ≤ 511 := by omega
        obtain ⟨m, hm⟩ : ∃ m, n8 % 512 = m := ⟨_, rfl⟩
        rw [hm] at hand hmm
        have Hm := Lib.hid hm
        clear hm
        obtain ⟨Al, cl, rfl⟩ := own_shape (H8.out.item (k := ownI 147 2 u7 l.length (tvRow l)) (List.mem_of_getElem? (i := 1) rfl))
        obtain ⟨Aa, ca, rfl⟩ := own_shape (H8.out.item (k := ownI 3 1 u8 ats.length (atRow ats)) (List.mem_of_getElem? (i := 2) rfl))
        go_wp2_with fail
        refine (bytes_e H8.out m (by omega)).mono ?_
        rintro e w9 ⟨n9, R9, e9, l9, rfl, g9, h9⟩
        have E9 := Lib.hid e9
        have H9 := Lib.hid h9
        have hok8 := H8.out.rdp.ok
        clear e9 h9 H8
        obtain ⟨t, ht⟩ : ∃ t : Tv, t = ⟨(n8 : Int) / 512, n9⟩ := ⟨_, rfl⟩
        have TB : Tryd.prog.built 147 [(0, .int .i64 ((n8 : Int) / 512)), (1, .string ⟨n9.toArray⟩)] = some t.vals.toArray := by rw [ht]; exact tlv_built _ _
        have Ht := Lib.hid ht
        have Htb := Lib.hid TB
        have hok9 := H9.out.rdp.ok
        have hgo := tlvM_go (f := f) (R3 := R9) (c := n9) (l := l) (ats := ats) Hn.out E8.out (by rw [Hm.out]; exact E9.out) Hcd.out
        rw [← ht, ← HM.out] at hgo
        have Hgo := Lib.hid hgo
        have hF9 : Hid (R9.err = none → R9.s.length - R9.at_ < f) := Lib.hid (fun h9 => by
          obtain ⟨c, rest, h1, h2, h3, h4⟩ := bytesM_back hok8 (n := m) (by rw [E9.out]; exact h9)
          have hR9 : R9 = R8.skip m := by
            have := E9.out.symm.trans h3
            exact (Prod.mk.inj this).2
          have hf := hF8.out h2.none
          rw [hR9]
          show R8.s.length - (R8.at_ + m) < f
          omega)
        clear ht TB hgo hF8 HF
        go_upto_region 13 with (fail)
        have H10 : Hid (St b w (w9.alloc (.cells #[.int .i64 ((n8 : Int) / 512), .string ⟨n9.toArray⟩] 147)) (bk w9.heap.size 147 t.vals :: rd b R9 g9 :: ownI 147 2 (.slice Al l.length cl) l.length (tvRow l) :: ownI 3 1 (.slice Aa ats.length ca) ats.length (atRow ats) :: [])) := Lib.hid (by rw [Ht.out]; exact H9.out.alloc (Tv.vals ⟨(n8 : Int) / 512, n9⟩) 147)
        clear H9 Ht Htb
        generalize w9.heap.size = P at *
        generalize World.alloc _ _ = w10 at *
        have hlen : l.length ≤ s.length := by have := HL.out; omega
        have hlenA : ats.length ≤ s.length := by have := HL.out; have := HA.out; omega
        go_wp2_with (first
          | (with_reducible refine wpList_load_rng (ty := 147) t.vals (by with_unfolding_all rfl) (Blk.box (H10.out.at 0 rfl)).range Tryd.underlying147 (by with_unfolding_all rfl) (by with_unfolding_all exact info147) ?_)
          | ((with_reducible refine wpList_build1 t.vals elemTlv ?hxb rfl (by decide) ?_)
             case hxb => rfl
             intro W11 hB11 hb11 hl11)
          | (at_builtin; refine wpList_append_st (t := 148) (e := 147) (size := 2) (bytes := 24) (n := l.length) (m := 1) (c := 1) (tvRow l) t.vals elemTlv ((H10.out.ext hb11).pull 2 rfl) (by with_unfolding_all rfl) (by with_unfolding_all rfl) (fun j u hj => by rw [Addr.add_mid]; exact (Blk.box hB11).range j u hj) rfl (Tv.one t) (by decide) (by unfold maxLen; omega) (by omega) (fun gT capT W12 H12 => ?_))
          | (at_builtin; refine wpList_append_st (t := 163) (e := 3) (size := 1) (bytes := 8) (n := ats.length) (m := 1) (c := 1) (atRow ats) [.int .i64 (R.place : Int)] elemAt ((H12.ext ((Below.refl _ _).alloc (Nat.le_refl _) _)).pull 3 rfl) (by with_unfolding_all rfl) (by with_unfolding_all rfl) (World.news_of_block (heap_alloc_new _ _)) rfl (fun v hv => by rw [List.mem_singleton.1 hv]; rfl) (by decide) (by unfold maxLen; omega) (by omega) (fun gA capA W13 H13 => ?_)))
        have h14 := (((H13.pull 2 rfl).tail.pull 1 rfl).pull 2 rfl)
        have H14 : Hid (St b w W13 (rd b R9 g9 :: ownI 147 2 (.slice (some ⟨gT, 0, none⟩) (l.length + 1) capT) (l ++ [t]).length (tvRow (l ++ [t])) :: ownI 3 1 (.slice (some ⟨gA, 0, none⟩) (ats.length + 1) capA) (ats ++ [R.place]).length (atRow (ats ++ [R.place])) :: [])) := Lib.hid (by
          rw [List.length_append, List.length_append, tvRow_snoc, atRow_snoc]; exact h14)
        clear h14
        go_roundg f
        case measure => omega
        case rel => exact ⟨l ++ [t], ats ++ [R.place], R9, g9, Hgo, hF9, Lib.hid (by have := HL.out; rw [List.length_append]; show l.length + 1 + f = _; omega), Lib.hid (by rw [List.length_append, List.length_append, HA.out]; rfl), H14⟩
      · -- the end
        by_cases h0 : n8 = 0
        · subst h0
          have hb0 : (((0 : Nat) : Int) != 0) = false := rfl
          go_wp2_with fail
          refine (zeros_e H8.out).mono ?_
          rintro e w9 ⟨ok, R9, e9, rfl, g9, h9⟩
          have H9 := Lib.hid h9
          have hM := tlvM_end1 (f := f) (l := l) (ats := ats) Hn.out E8.out (of_decide_eq_true Hcd.out).1 e9
          rw [← HM.out] at hM
          cases ok
          · have hne : R9.err ≠ none := fun h => by
              have := (zerosM_err (R := R8)).2 (by rw [e9]; exact h)
              rw [e9] at this; cases this
            obtain ⟨x, hx⟩ := Option.ne_none_iff_exists'.1 hne
            have He9 := Lib.hid (errV_some hx g9)
            have HMn := Lib.hid hM
            clear hM hne hx e9 h9
            go_wp2_with (first
              | ((with_reducible refine (err_st H9.out).mono ?_)
                 rintro e w10 ⟨rfl, rfl⟩
                 rw [He9.out]))
            go_returns
            exact ⟨TlvGot.none HMn.out, by rw [hb]; exact H9.out.below⟩
          · have HMs := Lib.hid hM
            clear hM e9 h9
            go_wp2_with fail
            go_returns
            refine ⟨?_, by rw [hb]; exact H9.out.below⟩
            have hT : w9.ownsRow 0 147 2 u7 (l.map Tv.vals).length (l.map Tv.vals).flatten := by rw [List.length_map]; exact H9.out.item (k := ownI 147 2 u7 l.length (tvRow l)) (List.mem_of_getElem? (i := 1) rfl)
            have hA : w9.ownsRow 0 3 1 u8 (ats.map fun (a : Nat) => [Value.int .i64 (a : Int)]).length (ats.map fun (a : Nat) => [Value.int .i64 (a : Int)]).flatten := by rw [List.length_map]; exact H9.out.item (k := ownI 3 1 u8 ats.length (atRow ats)) (List.mem_of_getElem? (i := 2) rfl)
            obtain ⟨A, c, rfl, hA1⟩ := own_sl hT (fun c hc => by obtain ⟨t, _, rfl⟩ := List.mem_map.1 hc; rfl)
            obtain ⟨A', c', rfl, hA2⟩ := own_sl hA (fun c hc => by obtain ⟨t, _, rfl⟩ := List.mem_map.1 hc; rfl)
            refine ⟨fun l2 ats2 z R2 h2 => ?_, fun R2 h2 => ?_⟩
            · rw [HMs.out] at h2
              obtain ⟨h3, _⟩ := Prod.mk.inj h2
              injection h3 with h3
              obtain ⟨rfl, h4⟩ := Prod.mk.inj h3
              obtain ⟨rfl, rfl⟩ := Prod.mk.inj h4
              exact ⟨A, c, A', c', by simp only [List.length_map], hA1, hA2⟩
            · rw [HMs.out] at h2
              cases (Prod.mk.inj h2).1
        · have hb0 : ((n8 : Int) != 0) = true := by rw [bne_iff_ne]; omega
          have hM := tlvM_end0 (f := f) (l := l) (ats := ats) Hn.out E8.out Hcd.out h0
          rw [← HM.out] at hM
          have hr8 : R8.err = none := (of_decide_eq_true Hcd.out).1
          have HMn := Lib.hid hM
          have hfm : failM R8 3 (R.place : Int) = { R8 with err := some (3, (R.place : Int)) } := failM_new hr8 _ _
          have Hfm := Lib.hid hfm
          clear hM h0 hr8 hfm
          go_wp2_with (first
            | ((with_reducible refine (fail_st H8.out 3 _).mono ?_)
               rintro e w9 ⟨rfl, g9, h9⟩
               have H9 := Lib.hid h9
               clear h9))
          refine (zeros_e H9.out).mono ?_
          rintro e w10 ⟨ok, R10, e10, rfl, g10, h10⟩
          have hz : zerosM (failM R8 3 (R.place : Int)) = (false, failM R8 3 (R.place : Int)) := zerosM_had (x := (3, (R.place : Int))) (by rw [Hfm.out])
          rw [hz] at e10
          obtain ⟨rfl, rfl⟩ := Prod.mk.inj e10
          have H10 := Lib.hid h10
          have He10 := Lib.hid (errV_some (R := failM R8 3 (R.place : Int)) (x := (3, (R.place : Int))) (by rw [Hfm.out]) g10)
          clear e10 h10 hz H9
          go_wp2_with (first
            | ((with_reducible refine (err_st H10.out).mono ?_)
               rintro e w11 ⟨rfl, rfl⟩
               rw [He10.out]))
          go_returns
          exact ⟨TlvGot.none HMn.out, by rw [hb]; exact H10.out.below⟩
end Go.Proofs.YteibhcocldihbaaDoor
namespace Go.Proofs.YteibhcocldihbaaDoor
open Go.RowKit
theorem wpList_store_whole {P : Program} {ops : Array Oper} {rest : List Oper} {ty : TypeId} {p : Tmp} {y : Operand} {t' : TypeId} {pos : String} {after : Array Edge} {a : Act} {w : World} {Q : Exit → Act → World → Prop} {b : Nat} {t : TypeId} (L cs : List Value) (hlen : L.length = cs.length)
    (hx : a.eval (.tmp p) = .pointer (some ⟨b, 0, none⟩)) (hy : a.eval y = .agg cs.toArray) (hB : Blk w b t L) (hi : (P.info? ty).map (·.size) = some cs.length) (h1 : ∀ v ∈ cs, v.oneCell' = true)
    (h : ∀ W, Blk W b t cs → Only b w W → wpList P ops Q rest a W) :
    wpList P ops Q (⟨none, .store ty (.tmp p) y, t', pos, after, none⟩ :: rest) a w :=
  wpList_store_blk' (o := 0) L cs hx (by rw [hy]; rfl) hB (by omega) hi h1 (fun W hW ho => h W (by
    have e : L.take 0 ++ (cs ++ L.drop (0 + cs.length)) = cs := by rw [Nat.zero_add, ← hlen, List.drop_length]; simp
    rwa [e] at hW) ho)
def Mst.zero : Mst := ⟨Bp.zero, [], 0, [], 0, Br.zero, 0, []⟩
@[reducible] def zMst : List Value := [.int .i64 0, .bool false, .bool false, .int .i64 0, .bool false, .bool false, .bool false, .bool false, .int .i64 0, .int .i64 0, .int .u8 0, .int .u8 0, .int .u8 0, .int .u8 0, .int .u8 0, .int .u8 0, .int .i64 0, .int .i64 0, .int .i64 0, .int .u8 0, .int .u8 0, .int .u8 0, .int .u8 0, .int .u8 0, .int .u8 0, .int .i64 0, .int .i64 0, .int .i64 0, .int .i64 0, .int .i64 0, .int .i64 0, .string ⟨#[]⟩, .int .i64 0, .string ⟨#[]⟩, .int .i64 0, .int .i64 0, .int .i64 0, .int .u8 0, .int .u8 0, .int .u8 0, .int .u8 0, .int .u8 0, .int .u8 0, .int .i64 0, .slice none 0 0]
theorem mst_zero : Tryd.prog.built 47 [] = some (Mst.vals Mst.zero (.slice none 0 0)).toArray := by kernel_rfl
theorem elemIns : ElemOk Tryd.prog 45 104 19 80 := by
  have h : (Tryd.prog.info? 104).map (fun i => (i.zero, i.size, i.bytes)) = some (some (.agg zIns.toArray), 19, 80) := by kernel_rfl
  obtain ⟨i, hi, hz, hs, hb⟩ := info_parts h
  exact ⟨Tryd.underlying45, i, _, hi, hz, hs, hb, rfl, by decide⟩
def insRow (l : List Ins) : List Value := (l.map Ins.vals).flatten
theorem insRow_snoc (l : List Ins) (x : Ins) : insRow (l ++ [x]) = insRow l ++ x.vals := by simp [insRow]
theorem trimR_any (s : List UInt8) (hs : s.length ≤ 1000000) (w : World) : Calls Tryd.prog 67 #[.string ⟨s.toArray⟩, .string ⟨#[0]⟩] w fun e w' => e = .returned (.string ⟨(trimN s).toArray⟩) ∧ w' = w :=
  Tryd.strings_TrimRight_one ⟨s.toArray⟩ 0 (by decide) w (by show s.length ≤ _; omega)
theorem insM_had {R : RS} {x : Int × Int} (h : R.err = some x) : ∀ (m : Nat) (l : List Ins), insM m R l = (l, R)
  | 0, _ => rfl
  | m + 1, l => by unfold insM; rw [h]
def mstGot (s : List UInt8) (sv : Value) (g : Nat) : Value := if (readMstM s).2.err = none then .tuple #[.agg ((readMstM s).1.vals sv).toArray, .nilIface] else .tuple #[.agg (Mst.vals Mst.zero (.slice none 0 0)).toArray, errV (readMstM s).2 g]
/-- What Read leaves. -/
def MstOut (s : List UInt8) (w : World) (e : Ending) (w' : World) : Prop := ∃ A cap g, e = .returned (mstGot s (.slice A (readMstM s).1.insts.length cap) g) ∧ SlRow w' w'.heap.size 19 A ((readMstM s).1.insts.map Ins.vals) ∧ Below w.heap.size w w'
theorem MstOut.mk {s : List UInt8} {w w' : World} {e : Ending} (A : Option Addr) (cap g : Nat) (h1 : e = .returned (mstGot s (.slice A (readMstM s).1.insts.length cap) g)) (h2 : SlRow w' w'.heap.size 19 A ((readMstM s).1.insts.map Ins.vals)) (h3 : Below w.heap.size w w') : MstOut s w e w' := ⟨A, cap, g, h1, h2, h3⟩
set_option maxRecDepth 100000 in
set_option maxHeartbeats 8000000 in
theorem mstRead_any (s : List UInt8) (hs : s.length ≤ 1000000) (w : World) :
    Calls Tryd.prog 22 #[.string ⟨s.toArray⟩] w (MstOut s w) := by
  have H1 := Lib.hid ((St.init w).alloc zMst 47)
  go_enter Tryd.func22, Tryd.ntmps22
  go_upto_region 1 with (fail)
  unfold zMst at H1
  generalize World.alloc _ _ = w1 at *
  have H1 : Hid (St w.heap.size w w1 (bk w.heap.size 47 (Mst.vals Mst.zero (.slice none 0 0)) :: [])) := H1
  go_wp2_with fail
  refine (new_st H1.out s 0 (by omega)).mono ?_
  rintro e w2 ⟨rfl, h2⟩
  have H2 := Lib.hid h2
  clear h2 H1
  generalize hb : w1.heap.size = b at *
  clear hb
  go_wp2_with fail
  refine (bytes_e H2.out 4 (by decide)).mono ?_
  rintro e w3 ⟨n3, R3, e3, l3, rfl, g3, h3⟩
  have E3 := Lib.hid e3
  have H3 := Lib.hid h3
  clear e3 h3 H2
  go_upto_region 3 with (fail)
  obtain ⟨cond, hcd⟩ : ∃ c, decide (R3.err = none ∧ n3 ≠ headMst) = c := ⟨_, rfl⟩
  have Hcd := Lib.hid hcd
  clear hcd
  go_cut [23] (fun c wx => c = .bool cond ∧ wx = w3)
  case first =>
    cases he : R3.err with
    | some x =>
      obtain rfl : cond = false := by rw [← Hcd.out, he]; simp
      have He := Lib.hid (errV_some he g3)
      clear he
      go_wp2_with (first
        | ((with_reducible refine (err_st H3.out).mono ?_)
           rintro e w6 ⟨rfl, rfl⟩
           rw [He.out]))
      go_meet
      exact ⟨rfl, rfl⟩
    | none =>
      have He := Lib.hid (errV_none he g3)
      by_cases h1 : n3 = headMst
      · obtain rfl : cond = false := by rw [← Hcd.out, h1]; simp
        have hb1 : (n3 == [0, 0, 3, 2]) = true := by rw [h1]; rfl
        clear he h1
        go_wp2_with (first
          | ((with_reducible refine (err_st H3.out).mono ?_)
             rintro e w6 ⟨rfl, rfl⟩
             rw [He.out]))
        go_meet
        exact ⟨rfl, rfl⟩
      · obtain rfl : cond = true := by rw [← Hcd.out, he]; simp [h1]
        have hb1 : (n3 == [0, 0, 3, 2]) = false := by rw [beq_eq_false_iff_ne]; exact h1
        clear he h1
        go_wp2_with (first
          | ((with_reducible refine (err_st H3.out).mono ?_)
             rintro e w6 ⟨rfl, rfl⟩
             rw [He.out]))
        go_meet
        exact ⟨rfl, rfl⟩
  case rest =>
  obtain ⟨rfl, rfl⟩ := hcut
  go_upto_if 23 with (fail)
  go_cut [] (fun wx => RdTo w.heap.size w b (if cond = true then failM R3 3 0 else R3) [bk w.heap.size 47 (Mst.vals Mst.zero (.slice none 0 0))] wx)
  case first =>
    cases cond
    · go_wp2_with fail
      go_meet
      exact ⟨g3, H3.out⟩
    · go_wp2_with (first
        | ((with_reducible refine (fail_st H3.out 3 _).mono ?_)
           rintro e w6 ⟨rfl, h6⟩
           have H6 := Lib.hid h6
           clear h6))
      go_meet
      exact H6.out
  case rest =>
  have hR4 : (if cond = true then failM R3 3 0 else R3) = headM (newM s 0) headMst := by
    have e3 : bytesM (newM s 0) headMst.length = (n3, R3) := E3.out
    unfold headM
    rw [e3, ← Hcd.out]
    simp [decide_eq_true_eq]
    rfl
  rw [hR4] at hcut
  clear hR4 Hcd
  obtain ⟨R4, e4⟩ : ∃ R', headM (newM s 0) headMst = R' := ⟨_, rfl⟩
  rw [e4] at hcut
  have E4 := Lib.hid e4
  obtain ⟨g4, h4⟩ := hcut
  have H4 := Lib.hid h4
  clear e4 h4 H3 E3
  clear cond
  go_upto_region 6 with (fail)
  generalize hw4 : wc = w4 at *
  clear hw4
  have H5 := Lib.hid ((H4.out.alloc zMst 47)).swap
  clear H4
  unfold zMst at H5
  generalize World.alloc _ _ = w5 at *
  generalize w4.heap.size = P at *
  have H5 : Hid (St w.heap.size w w5 (rd b R4 g4 :: bk P 47 (Mst.vals Mst.zero (.slice none 0 0)) :: bk w.heap.size 47 (Mst.vals Mst.zero (.slice none 0 0)) :: [])) := H5
  go_wp2_with fail
  refine (readBody_e H5.out 3).mono ?_
  rintro e w6 ⟨x6, R6, e6, rfl, g6, h6⟩
  have E6 := Lib.hid e6
  have H6 := Lib.hid h6
  clear e6 h6 H5
  go_upto_region 7 with (first
    | (with_reducible refine wpList_store_blk (ty := 44) (o := 0) _ x6.vals (by with_unfolding_all rfl) (by with_unfolding_all rfl) (H6.out.at 1 rfl) (by with_unfolding_all exact Nat.le_of_ble_eq_true rfl) (by with_unfolding_all exact info44) (Bp.one _) (fun W7 hBW7 hoW7 => ?_)))
  have H7 : Hid (St w.heap.size w W7 (rd b R6 g6 :: bk P 47 (Mst.vals ⟨x6, [], 0, [], 0, Br.zero, 0, []⟩ (.slice none 0 0)) :: bk w.heap.size 47 (Mst.vals Mst.zero (.slice none 0 0)) :: [])) := Lib.hid ((H6.out.pull 1 rfl).sets (L' := (Mst.vals ⟨x6, [], 0, [], 0, Br.zero, 0, []⟩ (.slice none 0 0))) hBW7 hoW7).swap
  clear hBW7 hoW7 H6
  go_wp2_with fail
  refine (at_st H7.out).mono ?_
  rintro e w8 ⟨rfl, h8⟩
  have H8 := Lib.hid h8
  clear h8 H7
  obtain ⟨p7, hp7⟩ : ∃ p, R6.place = p := ⟨_, rfl⟩
  have HP7 := Lib.hid hp7
  rw [hp7]
  clear hp7
  go_wp2_with fail
  refine (num_e H8.out 1 (by decide) (by decide)).mono ?_
  rintro e w9 ⟨n9, R9, e9, l9, rfl, g9, h9⟩
  have E9 := Lib.hid e9
  have H9 := Lib.hid h9
  clear e9 h9 H8
  go_upto_if 34 with (fail)
  go_cut [] (fun wx => RdTo w.heap.size w b (if n9 ≠ 0 then failM R9 3 (p7 : Int) else R9) [bk P 47 (Mst.vals ⟨x6, [], 0, [], 0, Br.zero, 0, []⟩ (.slice none 0 0)), bk w.heap.size 47 (Mst.vals Mst.zero (.slice none 0 0))] wx)
  case first =>
    by_cases h0 : n9 = 0
    · have hb0 : ((n9 : Int) != 0) = false := by rw [h0]; rfl
      have Hh := Lib.hid h0
      clear h0
      go_wp2_with fail
      go_meet
      rw [if_neg (by simp [Hh.out])]
      exact ⟨g9, H9.out⟩
    · have hb0 : ((n9 : Int) != 0) = true := by rw [bne_iff_ne]; omega
      have Hh := Lib.hid h0
      clear h0
      go_wp2_with (first
        | ((with_reducible refine (fail_st H9.out 3 _).mono ?_)
           rintro e w60 ⟨rfl, h60⟩
           have H60 := Lib.hid h60
           clear h60))
      go_meet
      rw [if_pos Hh.out]
      exact H60.out
  case rest =>
  obtain ⟨R10, e10⟩ : ∃ R', (if n9 ≠ 0 then failM R9 3 (p7 : Int) else R9) = R' := ⟨_, rfl⟩
  rw [e10] at hcut
  have E10 := Lib.hid e10
  obtain ⟨g10, h10⟩ := hcut
  have H10 := Lib.hid h10
  clear e10 h10 H9
  generalize hw10 : wc = w10 at *
  clear hw10
  go_wp2_with fail
  refine (at_st H10.out).mono ?_
  rintro e w11 ⟨rfl, h11⟩
  have H11 := Lib.hid h11
  clear h11 H10
  obtain ⟨p11, hp11⟩ : ∃ p, R10.place = p := ⟨_, rfl⟩
  have HP11 := Lib.hid hp11
  rw [hp11]
  clear hp11
  go_wp2_with fail
  refine (num_e H11.out 2 (by decide) (by decide)).mono ?_
  rintro e w12 ⟨n12, R12, e12, l12, rfl, g12, h12⟩
  have E12 := Lib.hid e12
  have H12 := Lib.hid h12
  clear e12 h12 H11
  have l12' : n12 < 65536 := l12
  go_upto_region 13 with (fail)
  generalize hd : (n12 : Int) - 64 = d at *
  have Hd := Lib.hid hd
  clear hd
  obtain ⟨bad, hbad⟩ : ∃ c, decide (lenBad n12) = c := ⟨_, rfl⟩
  have Hbad := Lib.hid hbad
  clear hbad
  have hds : -64 ≤ d ∧ d ≤ 65536 := by have := Hd.out; omega
  go_cut [54] (fun c wx => c = .bool bad ∧ wx = w12)
  case first =>
    by_cases hneg : d < 0
    · obtain rfl : bad = true := by rw [← Hbad.out, decide_eq_true_iff]; left; have := Hd.out; omega
      go_wp2_with fail
      go_meet
      exact ⟨rfl, rfl⟩
    · obtain ⟨dn, rfl⟩ := Int.eq_ofNat_of_zero_le (show 0 ≤ d by omega)
      have ht1 : Int.tmod (dn : Int) 16 = ((dn % 16 : Nat) : Int) := by rw [Int.tmod_eq_emod_of_nonneg (by omega)]; omega
      have Ht1 := Lib.hid ht1
      clear ht1
      by_cases hm : dn % 16 = 0
      · have hm1 : (Int.tmod (dn : Int) 16 != 0) = false := by rw [Ht1.out, hm]; rfl
        have hm2 : ((dn : Int) % 16 != 0) = false := by rw [bne_eq_false_iff_eq]; omega
        by_cases hq : 64 < dn / 16
        · obtain rfl : bad = true := by rw [← Hbad.out, decide_eq_true_iff]; right; right; have := Hd.out; omega
          have hq1 : (64 : Int) < (dn : Int) / 16 := by omega
          clear hm hq
          go_wp2_with fail
          go_meet
          exact ⟨rfl, rfl⟩
        · obtain rfl : bad = false := by
            rw [← Hbad.out, decide_eq_false_iff_not]; unfold lenBad; have := Hd.out; omega
          have hq1 : ¬ (64 : Int) < (dn : Int) / 16 := by omega
          clear hm hq
          go_wp2_with fail
          go_meet
          exact ⟨rfl, rfl⟩
      · obtain rfl : bad = true := by rw [← Hbad.out, decide_eq_true_iff]; right; left; have := Hd.out; omega
        have hm1 : (Int.tmod (dn : Int) 16 != 0) = true := by rw [Ht1.out, bne_iff_ne]; omega
        have hm2 : ((dn : Int) % 16 != 0) = true := by rw [bne_iff_ne]; omega
        clear hm
        go_wp2_with fail
        go_meet
        exact ⟨rfl, rfl⟩
  case rest =>
  obtain ⟨rfl, rfl⟩ := hcut
  go_upto_if 54 with (fail)
  go_cut [] (fun wx => RdTo w.heap.size w b (if lenBad n12 then failM R12 2 (p11 : Int) else R12) [bk P 47 (Mst.vals ⟨x6, [], 0, [], 0, Br.zero, 0, []⟩ (.slice none 0 0)), bk w.heap.size 47 (Mst.vals Mst.zero (.slice none 0 0))] wx)
  case first =>
    cases bad
    · go_wp2_with fail
      go_meet
      rw [if_neg (of_decide_eq_false Hbad.out)]
      exact ⟨g12, H12.out⟩
    · go_wp2_with (first
        | ((with_reducible refine (fail_st H12.out 2 _).mono ?_)
           rintro e w60 ⟨rfl, h60⟩
           have H60 := Lib.hid h60
           clear h60))
      go_meet
      rw [if_pos (of_decide_eq_true Hbad.out)]
      exact H60.out
  case rest =>
  obtain ⟨R13, e13⟩ : ∃ R', (if lenBad n12 then failM R12 2 (p11 : Int) else R12) = R' := ⟨_, rfl⟩
  rw [e13] at hcut
  have E13 := Lib.hid e13
  obtain ⟨g13, h13⟩ := hcut
  have H13 := Lib.hid h13
  clear e13 h13 H12
  generalize hw13 : wc = w13 at *
  clear hw13
  go_wp2_with fail
  refine (at_st H13.out).mono ?_
  rintro e w14 ⟨rfl, h14⟩
  have H14 := Lib.hid h14
  clear h14 H13
  obtain ⟨p14, hp14⟩ : ∃ p, R13.place = p := ⟨_, rfl⟩
  have HP14 := Lib.hid hp14
  rw [hp14]
  clear hp14
  go_wp2_with fail
  refine (num_e H14.out 1 (by decide) (by decide)).mono ?_
  rintro e w15 ⟨n15, R15, e15, l15, rfl, g15, h15⟩
  have E15 := Lib.hid e15
  have H15 := Lib.hid h15
  clear e15 h15 H14
  go_upto_if 63 with (fail)
  go_cut [] (fun wx => RdTo w.heap.size w b (if n15 ≠ 0 then failM R15 3 (p14 : Int) else R15) [bk P 47 (Mst.vals ⟨x6, [], 0, [], 0, Br.zero, 0, []⟩ (.slice none 0 0)), bk w.heap.size 47 (Mst.vals Mst.zero (.slice none 0 0))] wx)
  case first =>
    by_cases h0 : n15 = 0
    · have hb0 : ((n15 : Int) != 0) = false := by rw [h0]; rfl
      have Hh := Lib.hid h0
      clear h0
      go_wp2_with fail
      go_meet
      rw [if_neg (by simp [Hh.out])]
      exact ⟨g15, H15.out⟩
    · have hb0 : ((n15 : Int) != 0) = true := by rw [bne_iff_ne]; omega
      have Hh := Lib.hid h0
      clear h0
      go_wp2_with (first
        | ((with_reducible refine (fail_st H15.out 3 _).mono ?_)
           rintro e w60 ⟨rfl, h60⟩
           have H60 := Lib.hid h60
           clear h60))
      go_meet
      rw [if_pos Hh.out]
      exact H60.out
  case rest =>
  obtain ⟨R16, e16⟩ : ∃ R', (if n15 ≠ 0 then failM R15 3 (p14 : Int) else R15) = R' := ⟨_, rfl⟩
  rw [e16] at hcut
  have E16 := Lib.hid e16
  obtain ⟨g16, h16⟩ := hcut
  have H16 := Lib.hid h16
  clear e16 h16 H15
  generalize hw16 : wc = w16 at *
  clear hw16
  go_wp2_with fail
  refine (bytes_e H16.out 32 (by decide)).mono ?_
  rintro e w17 ⟨n17, R17, e17, l17, rfl, g17, h17⟩
  have E17 := Lib.hid e17
  have H17 := Lib.hid h17
  clear e17 h17 H16
  have l17' : n17.length ≤ 32 := by rcases l17 with h | h <;> simp [h]
  have HT := Lib.hid (fun W => trimR_any n17 (by omega) W)
  have c18 : w17.cell? ⟨P, 31, none⟩ = some (.string ⟨([] : List UInt8).toArray⟩) := (H17.out.pull 1 rfl).cell 31
  have z18 := (H17.out.pull 1 rfl).frozen 31
  go_upto_region 20 with (first
    | ((with_reducible refine (HT.out _).mono ?_)
       rintro e w18 ⟨rfl, rfl⟩
       skip))
  have H18 : Hid (St w.heap.size w _ (rd b R17 g17 :: bk P 47 (Mst.vals ⟨x6, trimN n17, 0, [], 0, Br.zero, 0, []⟩ (.slice none 0 0)) :: bk w.heap.size 47 (Mst.vals Mst.zero (.slice none 0 0)) :: [])) := Lib.hid ((H17.out.pull 1 rfl).set 31 (.string ⟨(trimN n17).toArray⟩) (by simp [Mst.vals, Mst.tail, Bp.len, Br.vals, Ad.vals])).swap
  clear c18 z18 H17 HT
  generalize World.setCell _ _ _ = w18 at *
  go_wp2_with fail
  refine (num_e H18.out 2 (by decide) (by decide)).mono ?_
  rintro e w19 ⟨n19, R19, e19, l19, rfl, g19, h19⟩
  have E19 := Lib.hid e19
  have H19 := Lib.hid h19
  clear e19 h19 H18
  go_wp2_with fail
  refine (bytes_e H19.out 16 (by decide)).mono ?_
  rintro e w20 ⟨n20, R20, e20, l20, rfl, g20, h20⟩
  have E20 := Lib.hid e20
  have H20 := Lib.hid h20
  clear e20 h20 H19
  go_wp2_with fail
  refine (num_e H20.out 4 (by decide) (by decide)).mono ?_
  rintro e w21 ⟨n21, R21, e21, l21, rfl, g21, h21⟩
  have E21 := Lib.hid e21
  have H21 := Lib.hid h21
  clear e21 h21 H20
  have c32 : w21.cell? ⟨P, 32, none⟩ = some (.int .i64 0) := (H21.out.pull 1 rfl).cell 32
  have z32 := (H21.out.pull 1 rfl).frozen 32
  have c33 : w21.cell? ⟨P, 33, none⟩ = some (.string ⟨([] : List UInt8).toArray⟩) := (H21.out.pull 1 rfl).cell 33
  have z33 := (H21.out.pull 1 rfl).frozen 33
  have c34 : w21.cell? ⟨P, 34, none⟩ = some (.int .i64 0) := (H21.out.pull 1 rfl).cell 34
  have z34 := (H21.out.pull 1 rfl).frozen 34
  go_upto_region 21 with (fail)
  have h22 := ((((H21.out.pull 1 rfl).set 32 (.int .i64 (n19 : Int)) (by simp [Mst.vals, Mst.tail, Bp.len, Br.vals, Ad.vals])).set 33 (.string ⟨n20.toArray⟩) (by simp [Mst.vals, Mst.tail, Bp.len, Br.vals, Ad.vals])).set 34 (.int .i64 (n21 : Int)) (by simp [Mst.vals, Mst.tail, Bp.len, Br.vals, Ad.vals])).swap
  have H22 : Hid (St w.heap.size w _ (rd b R21 g21 :: bk P 47 (Mst.vals ⟨x6, trimN n17, (n19 : Int), n20, (n21 : Int), Br.zero, 0, []⟩ (.slice none 0 0)) :: bk w.heap.size 47 (Mst.vals Mst.zero (.slice none 0 0)) :: [])) := Lib.hid h22
  clear h22 c32 z32 c33 z33 c34 z34 H21
  generalize World.setCell _ _ _ = w22 at *
  go_wp2_with fail
  refine (readBr_e H22.out).mono ?_
  rintro e w23 ⟨x23, R23, e23, rfl, g23, h23⟩
  have E23 := Lib.hid e23
  have H23 := Lib.hid h23
  clear e23 h23 H22
  go_upto_region 22 with (first
    | (with_reducible refine wpList_store_blk (ty := 40) (o := 35) _ x23.vals (by with_unfolding_all rfl) (by with_unfolding_all rfl) (H23.out.at 1 rfl) (by with_unfolding_all exact Nat.le_of_ble_eq_true rfl) (by with_unfolding_all exact info40) (Br.one _) (fun W24 hBW24 hoW24 => ?_)))
  have H24 : Hid (St w.heap.size w W24 (rd b R23 g23 :: bk P 47 (Mst.vals ⟨x6, trimN n17, (n19 : Int), n20, (n21 : Int), x23, 0, []⟩ (.slice none 0 0)) :: bk w.heap.size 47 (Mst.vals Mst.zero (.slice none 0 0)) :: [])) := Lib.hid ((H23.out.pull 1 rfl).sets (L' := (Mst.vals ⟨x6, trimN n17, (n19 : Int), n20, (n21 : Int), x23, 0, []⟩ (.slice none 0 0))) hBW24 hoW24).swap
  clear hBW24 hoW24 H23
  go_wp2_with fail
  refine (num_e H24.out 1 (by decide) (by decide)).mono ?_
  rintro e w25 ⟨n25, R25, e25, l25, rfl, g25, h25⟩
  have E25 := Lib.hid e25
  have H25 := Lib.hid h25
  clear e25 h25 H24
  have c43 : w25.cell? ⟨P, 43, none⟩ = some (.int .i64 0) := (H25.out.pull 1 rfl).cell 43
  have z43 := (H25.out.pull 1 rfl).frozen 43
  go_upto_region 24 with (fail)
  have h26 := ((H25.out.pull 1 rfl).set 43 (.int .i64 (n25 : Int)) (by simp [Mst.vals, Mst.tail, Bp.len, Br.vals, Ad.vals])).swap
  obtain ⟨M, hM⟩ : ∃ M : List Ins → Mst, M = fun l => ⟨x6, trimN n17, n19, n20, n21, x23, n25, l⟩ := ⟨_, rfl⟩
  have H26 : Hid (St w.heap.size w _ (rd b R25 g25 :: bk P 47 ((M []).vals (.slice none 0 0)) :: bk w.heap.size 47 (Mst.vals Mst.zero (.slice none 0 0)) :: [])) := Lib.hid (by rw [hM]; exact h26)
  have HM := Lib.hid hM
  clear h26 c43 z43 H25 hM
  generalize World.setCell _ _ _ = w26 at *
  have hRd : readMstM s = (M (insM ((n12 - 64) / 16) R25 []).1, (insM ((n12 - 64) / 16) R25 []).2) := by
    unfold readMstM
    simp only [E4.out, E6.out, E9.out, HP7.out, E10.out, E12.out, HP11.out, E13.out, E15.out, HP14.out, E16.out, E17.out, E19.out, E20.out, E21.out, E23.out, E25.out, HM.out]
  have HRd := Lib.hid hRd
  clear hRd
  have hgood : R25.err = none → d = 16 * (((n12 - 64) / 16 : Nat) : Int) ∧ (n12 - 64) / 16 ≤ 64 := fun h => by
    have t24 : R23.err = none := bytesM_err (n := 1) (by have := E25.out; unfold numM at this; rw [(Prod.mk.inj this).2]; exact h)
    have t22 : R21.err = none := by
      have := E23.out
      unfold readBrM at this
      exact bytesM_err (n := 2) (bytesM_err (n := 6) (by have h2 := (Prod.mk.inj this).2; unfold numM at h2; rw [h2]; exact t24))
    have t20 : R20.err = none := bytesM_err (n := 4) (by have := E21.out; unfold numM at this; rw [(Prod.mk.inj this).2]; exact t22)
    have t19 : R19.err = none := bytesM_err (n := 16) (by rw [E20.out]; exact t20)
    have t17 : R17.err = none := bytesM_err (n := 2) (by have := E19.out; unfold numM at this; rw [(Prod.mk.inj this).2]; exact t19)
    have t16 : R16.err = none := bytesM_err (n := 32) (by rw [E17.out]; exact t17)
    have t15 : R15.err = none := by
      have := E16.out
      split at this
      · rw [← this] at t16; exact absurd t16 (failM_err _ _ _)
      · rw [this]; exact t16
    have t13 : R13.err = none := bytesM_err (n := 1) (by have := E15.out; unfold numM at this; rw [(Prod.mk.inj this).2]; exact t15)
    have hnb : ¬ lenBad n12 := fun hb => by
      have := E13.out
      rw [if_pos hb] at this
      rw [← this] at t13
      exact absurd t13 (failM_err _ _ _)
    unfold lenBad at hnb
    have := Hd.out
    omega
  have Hgood := Lib.hid hgood
  clear hgood E4 E6 E9 HP7 E10 E12 HP11 E13 E15 HP14 E16 E17 E19 E20 E21 E23 E25 Hbad
  obtain ⟨c, hc⟩ : ∃ c, (n12 - 64) / 16 = c := ⟨_, rfl⟩
  rw [hc] at HRd Hgood
  clear hc Hd
  obtain ⟨X0, hX0⟩ : ∃ X, insM c R25 [] = X := ⟨_, rfl⟩
  rw [hX0] at HRd
  have HX0 := Lib.hid hX0
  clear hX0
  have H27 : Hid (St w.heap.size w w26 (rd b R25 g25 :: bk P 47 ((M []).vals (.slice none 0 0)) :: bk w.heap.size 47 (Mst.vals Mst.zero (.slice none 0 0)) :: ownI 104 19 (.slice none 0 0) 0 [] :: [])) := Lib.hid ((((H26.out.own0 104 19).pull 3 rfl).pull 3 rfl).pull 3 rfl)
  clear H26
  obtain ⟨ZV, hZV⟩ : ∃ ZV, Mst.vals Mst.zero (.slice none 0 0) = ZV := ⟨_, rfl⟩
  have HZI : Hid ((Tryd.prog.info? 47).map (·.size) = some ZV.length) := Lib.hid (by rw [← hZV]; exact info47)
  have HZO : Hid (∀ v ∈ ZV, v.oneCell' = true) := Lib.hid (by rw [← hZV]; exact Mst.one _ _ rfl)
  have HZB : Hid (Tryd.prog.built 47 [] = some ZV.toArray) := Lib.hid (by rw [← hZV]; exact mst_zero)
  have HZL : Hid (ZV.length = 45) := Lib.hid (by rw [← hZV]; rfl)
  have HZV := Lib.hid hZV
  rw [hZV] at H27
  clear hZV
  go_loopw [11, 12] (fun i _ wr => ∃ (k : Nat) (l : List Ins) (R : RS) (g : Nat) (sv : Value), i = .int .i64 k ∧ k ≤ 64 ∧ Hid (insM (c - k) R l = X0) ∧ Hid (l.length = k) ∧ Hid (R.err = none → d = 16 * (c : Int) ∧ k ≤ c ∧ c ≤ 64) ∧ Hid (St w.heap.size w wr (rd b R g :: bk P 47 ((M l).vals sv) :: bk w.heap.size 47 ZV :: ownI 104 19 sv l.length (insRow l) :: []))) (fun i _ _ => 64 - (intOf i).toNat)
  case atStart => exact ⟨0, [], R25, g25, .slice none 0 0, rfl, by omega, by rw [Nat.sub_zero]; exact HX0, Lib.hid rfl, Lib.hid (fun h => ⟨(Hgood.out h).1, by omega, (Hgood.out h).2⟩), H27⟩
  case round =>
    obtain ⟨k, l, R, g, sv, rfl, hk64, HI, HL, HG, HS⟩ := hrel
    clear H27 Hgood
    obtain ⟨cond, hcd⟩ : ∃ c', decide (R.err = none ∧ k < c) = c' := ⟨_, rfl⟩
    have Hcd := Lib.hid hcd
    clear hcd
    go_upto_region 24 with (fail)
    go_cut [94] (fun v wx => v = .bool cond ∧ wx = wr)
    case first =>
      cases he : R.err with
      | some x =>
        obtain rfl : cond = false := by rw [← Hcd.out, he]; simp
        have He := Lib.hid (errV_some he g)
        clear he
        by_cases hlt : (k : Int) < Int.tdiv d 16 <;> by_cases hlt2 : (k : Int) < d / 16
        all_goals
          go_wp2_with (first
            | ((with_reducible refine (err_st HS.out).mono ?_)
               rintro e w60 ⟨rfl, rfl⟩
               rw [He.out]))
          go_meet
          exact ⟨rfl, rfl⟩
      | none =>
        have He := Lib.hid (errV_none he g)
        obtain ⟨hg1, hg2, hg3⟩ := HG.out he
        have htd : d / 16 = (c : Int) := by rw [hg1]; omega
        have htd2 : Int.tdiv d 16 = (c : Int) := by rw [Int.tdiv_eq_ediv_of_nonneg (by omega)]; exact htd
        by_cases hlt : k < c
        · obtain rfl : cond = true := by rw [← Hcd.out, he]; simp [hlt]
          have hI : (k : Int) < (c : Int) := by omega
          clear he hg1 hlt
          go_wp2_with (first
            | ((with_reducible refine (err_st HS.out).mono ?_)
               rintro e w60 ⟨rfl, rfl⟩
               rw [He.out]))
          go_meet
          exact ⟨rfl, rfl⟩
        · obtain rfl : cond = false := by rw [← Hcd.out]; simp [hlt]
          have hI : ¬ (k : Int) < (c : Int) := by omega
          clear he hg1 hlt
          go_wp2_with (first
            | ((with_reducible refine (err_st HS.out).mono ?_)
               rintro e w60 ⟨rfl, rfl⟩
               rw [He.out]))
          go_meet
          exact ⟨rfl, rfl⟩
    case rest =>
    obtain ⟨rfl, rfl⟩ := hcut
    generalize wc = wr at *
    go_upto_if 94 with (fail)
    cases cond
    · -- out of the loop
      have B17 := Lib.hid (HS.out.at 2 rfl)
      have R17' := Lib.hid (Blk.box (HS.out.at 1 rfl)).range
      have hT : wr.ownsRow 0 104 19 sv (l.map Ins.vals).length (l.map Ins.vals).flatten := by rw [List.length_map]; exact HS.out.item (k := ownI 104 19 sv l.length (insRow l)) (List.mem_of_getElem? (i := 3) rfl)
      obtain ⟨A, cap, hsv, hA⟩ := own_sl hT (fun c hc => by obtain ⟨t, _, rfl⟩ := List.mem_map.1 hc; rfl)
      clear hT
      rw [List.length_map] at hsv
      subst hsv
      have HA := Lib.hid hA
      clear hA
      cases he : R.err with
      | some y =>
        have hX : (l, R) = X0 := by rw [← HI.out, insM_had he]
        have hR : readMstM s = (M l, R) := by rw [HRd.out, ← hX]
        have HR := Lib.hid hR
        have He := Lib.hid (errV_some he g)
        have hGt : ∀ A cap, mstGot s (.slice A (readMstM s).1.insts.length cap) g = .tuple #[.agg (Mst.vals Mst.zero (.slice none 0 0)).toArray, errV R g] := fun A cap => by
          unfold mstGot; rw [HR.out, if_neg (by simp [he])]
        have HGt := Lib.hid hGt
        clear he hGt hX hR
        go_upto_region 33 with (first
          | ((with_reducible refine (err_st HS.out).mono ?_)
             rintro e w60 ⟨rfl, rfl⟩
             rw [He.out]))
        repeat (first
          | (with_reducible refine wpList_buildA (t := 47) [] ZV (by with_unfolding_all rfl) HZB.out ?_)
          | go_step)
        refine (err_st HS.out).mono ?_
        rintro e w61 ⟨rfl, rfl⟩
        rw [He.out]
        try simp only []
        repeat (first
          | (with_reducible refine wpList_store_whole (ty := 47) _ ZV rfl (by with_unfolding_all rfl) (by with_unfolding_all rfl) B17.out HZI.out HZO.out (fun W19 hBW19 hoW19 => ?_))
          | go_step)
        have h19 := (HS.out.pull 2 rfl).sets (L' := ZV) hBW19 hoW19
        have hlen : (M l).insts.length = l.length := by rw [HM.out]
        refine ret_cell2 (cs := ZV) Tryd.results22 (by rfl) (by rfl) (Blk.box h19.head).range Tryd.underlying47 rfl HZI.out rfl (MstOut.mk A cap g ?_ ?_ h19.below)
        · rw [HGt.out, He.out, HZV.out]; rfl
        · rw [HR.out, HM.out]
          have hT2 : W19.ownsRow 0 104 19 (.slice A l.length cap) (l.map Ins.vals).length (l.map Ins.vals).flatten := by rw [List.length_map]; exact h19.item (k := ownI 104 19 (.slice A l.length cap) l.length (insRow l)) (List.mem_of_getElem? (i := 3) rfl)
          obtain ⟨A2, cap2, e2, hA2⟩ := own_sl hT2 (fun c hc => by obtain ⟨t, _, rfl⟩ := List.mem_map.1 hc; rfl)
          injection e2 with e2 _ _
          subst e2
          exact hA2
      | none =>
        have hkc : c - k = 0 := by
          have h1 := of_decide_eq_false Hcd.out
          have h2 : ¬ k < c := fun h => h1 ⟨he, h⟩
          omega
        have hX : (l, R) = X0 := by rw [← HI.out, hkc]; rfl
        have hR : readMstM s = (M l, R) := by rw [HRd.out, ← hX]
        have HR := Lib.hid hR
        have He := Lib.hid (errV_none he g)
        have hlen : (M l).insts.length = l.length := by rw [HM.out]
        have hGt : ∀ A cap, mstGot s (.slice A (readMstM s).1.insts.length cap) g = .tuple #[.agg ((M l).vals (.slice A l.length cap)).toArray, .nilIface] := fun A cap => by
          unfold mstGot; rw [HR.out, if_pos he, hlen]
        have HGt := Lib.hid hGt
        clear he hGt hX hR hkc hlen
        obtain ⟨VV, hVV⟩ : ∃ VV, (M l).vals (.slice A l.length cap) = VV := ⟨_, rfl⟩
        have hVl : VV.length = 45 := by rw [← hVV, HM.out]; rfl
        have HVO : Hid (∀ v ∈ VV, v.oneCell' = true) := Lib.hid (by rw [← hVV]; exact Mst.one _ _ rfl)
        have info47 : (Tryd.prog.info? 47).map (·.size) = some VV.length := by rw [hVl]; exact info47
        have HVI := Lib.hid info47
        have hVZ : ZV.length = VV.length := by rw [hVl, HZL.out]
        have HVV := Lib.hid hVV
        have HVZ := Lib.hid hVZ
        have HSv := HS
        rw [hVV] at HSv R17'
        clear hVV hVl hVZ
        go_upto_region 34 with (first
          | ((with_reducible refine (err_st HSv.out).mono ?_)
             rintro e w61 ⟨rfl, rfl⟩
             rw [He.out]))
        repeat (first
          | (with_reducible refine wpList_load_rng (ty := 47) VV (by with_unfolding_all rfl) R17'.out Tryd.underlying47 (by with_unfolding_all rfl) (by with_unfolding_all exact info47) ?_)
          | (with_reducible refine wpList_store_whole (ty := 47) _ VV HVZ.out (by with_unfolding_all rfl) (by with_unfolding_all rfl) B17.out HVI.out HVO.out (fun W19 hBW19 hoW19 => ?_))
          | go_step)
        have h19 := (HSv.out.pull 2 rfl).sets (L' := VV) hBW19 hoW19
        refine ret_cell2 (cs := VV) Tryd.results22 (by rfl) (by rfl) (Blk.box h19.head).range Tryd.underlying47 rfl HVI.out rfl (MstOut.mk A cap g ?_ ?_ h19.below)
        · rw [HGt.out, HVV.out]; rfl
        · rw [HR.out, HM.out]
          have hT2 : W19.ownsRow 0 104 19 (.slice A l.length cap) (l.map Ins.vals).length (l.map Ins.vals).flatten := by rw [List.length_map]; exact h19.item (k := ownI 104 19 (.slice A l.length cap) l.length (insRow l)) (List.mem_of_getElem? (i := 3) rfl)
          obtain ⟨A2, cap2, e2, hA2⟩ := own_sl hT2 (fun c hc => by obtain ⟨t, _, rfl⟩ := List.mem_map.1 hc; rfl)
          injection e2 with e2 _ _
          subst e2
          exact hA2
    · -- one more
      obtain ⟨he, hkc⟩ := of_decide_eq_true Hcd.out
      obtain ⟨hg1, hg2, hg3⟩ := HG.out he
      have Hn := Lib.hid he
      have Hg1 := Lib.hid hg1
      clear he hg1 hg2 Hcd HG
      have H30 := Lib.hid (HS.out.alloc zIns 104).swap
      unfold zIns at H30
      clear HS
      go_upto_region 27 with (fail)
      generalize wr.heap.size = Q at *
      generalize World.alloc _ _ = w30 at *
      have H30 : Hid (St w.heap.size w w30 (rd b R g :: bk Q 104 (Ins.vals ⟨Fl.zero, Br.zero, 0, 0, 0, 0⟩) :: bk P 47 ((M l).vals sv) :: bk w.heap.size 47 ZV :: ownI 104 19 sv l.length (insRow l) :: [])) := H30
      go_wp2_with fail
      refine (num_e H30.out 1 (by decide) (by decide)).mono ?_
      rintro e w31 ⟨n31, R31, e31, l31, rfl, g31, h31⟩
      have E31 := Lib.hid e31
      have H31 := Lib.hid h31
      clear e31 h31 H30
      go_upto_region 28 with (first
        | ((with_reducible refine (of_any n31 (by omega) _).mono ?_)
           rintro e w32 ⟨rfl, hb32⟩
           have H32 := Lib.hid (H31.out.ext hb32)
           clear hb32)
        | (with_reducible refine wpList_store_blk (ty := 38) (o := 0) _ (Fl.of n31).vals (by with_unfolding_all rfl) (by with_unfolding_all rfl) (H32.out.at 1 rfl) (by with_unfolding_all exact Nat.le_of_ble_eq_true rfl) (by with_unfolding_all exact info38) (Fl.one _) (fun W33 hBW33 hoW33 => ?_)))
      have H33 : Hid (St w.heap.size w W33 (rd b R31 g31 :: bk Q 104 (Ins.vals ⟨Fl.of n31, Br.zero, 0, 0, 0, 0⟩) :: bk P 47 ((M l).vals sv) :: bk w.heap.size 47 ZV :: ownI 104 19 sv l.length (insRow l) :: [])) := Lib.hid ((H32.out.pull 1 rfl).sets (L' := Ins.vals ⟨Fl.of n31, Br.zero, 0, 0, 0, 0⟩) hBW33 hoW33).swap
      clear hBW33 hoW33 H32 H31
      go_wp2_with fail
      refine (readBr_e H33.out).mono ?_
      rintro e w34 ⟨x34, R34, e34, rfl, g34, h34⟩
      have E34 := Lib.hid e34
      have H34 := Lib.hid h34
      clear e34 h34 H33
      go_upto_region 29 with (first
        | (with_reducible refine wpList_store_blk (ty := 40) (o := 7) _ x34.vals (by with_unfolding_all rfl) (by with_unfolding_all rfl) (H34.out.at 1 rfl) (by with_unfolding_all exact Nat.le_of_ble_eq_true rfl) (by with_unfolding_all exact info40) (Br.one _) (fun W35 hBW35 hoW35 => ?_)))
      have H35 : Hid (St w.heap.size w W35 (rd b R34 g34 :: bk Q 104 (Ins.vals ⟨Fl.of n31, x34, 0, 0, 0, 0⟩) :: bk P 47 ((M l).vals sv) :: bk w.heap.size 47 ZV :: ownI 104 19 sv l.length (insRow l) :: [])) := Lib.hid ((H34.out.pull 1 rfl).sets (L' := Ins.vals ⟨Fl.of n31, x34, 0, 0, 0, 0⟩) hBW35 hoW35).swap
      clear hBW35 hoW35 H34
      go_wp2_with fail
      refine (num_e H35.out 4 (by decide) (by decide)).mono ?_
      rintro e w36 ⟨n36, R36, e36, l36, rfl, g36, h36⟩
      have E36 := Lib.hid e36
      have H36 := Lib.hid h36
      clear e36 h36 H35
      have c36 : w36.cell? ⟨Q, 15, none⟩ = some (.int .i64 0) := (H36.out.pull 1 rfl).cell 15
      have z36 := (H36.out.pull 1 rfl).frozen 15
      go_upto_region 30 with (fail)
      have H37 : Hid (St w.heap.size w _ (rd b R36 g36 :: bk Q 104 (Ins.vals ⟨Fl.of n31, x34, n36, 0, 0, 0⟩) :: bk P 47 ((M l).vals sv) :: bk w.heap.size 47 ZV :: ownI 104 19 sv l.length (insRow l) :: [])) := Lib.hid ((H36.out.pull 1 rfl).set 15 (.int .i64 (n36 : Int)) (by simp [Ins.vals, Fl.vals, Br.vals, Ad.vals])).swap
      clear c36 z36 H36
      generalize World.setCell _ _ _ = w37 at *
      go_wp2_with fail
      refine (num_e H37.out 1 (by decide) (by decide)).mono ?_
      rintro e w38 ⟨n38, R38, e38, l38, rfl, g38, h38⟩
      have E38 := Lib.hid e38
      have H38 := Lib.hid h38
      clear e38 h38 H37
      have l38' : n38 < 256 := l38
      go_wp2_with fail
      refine (num_e H38.out 1 (by decide) (by decide)).mono ?_
      rintro e w39 ⟨n39, R39, e39, l39, rfl, g39, h39⟩
      have E39 := Lib.hid e39
      have H39 := Lib.hid h39
      clear e39 h39 H38
      have l39' : n39 < 256 := l39
      go_wp2_with fail
      refine (num_e H39.out 1 (by decide) (by decide)).mono ?_
      rintro e w40 ⟨n40, R40, e40, l40, rfl, g40, h40⟩
      have E40 := Lib.hid e40
      have H40 := Lib.hid h40
      clear e40 h40 H39
      have c16 : w40.cell? ⟨Q, 16, none⟩ = some (.int .i64 0) := (H40.out.pull 1 rfl).cell 16
      have z16 := (H40.out.pull 1 rfl).frozen 16
      have c17 : w40.cell? ⟨Q, 17, none⟩ = some (.int .i64 0) := (H40.out.pull 1 rfl).cell 17
      have z17 := (H40.out.pull 1 rfl).frozen 17
      have c18 : w40.cell? ⟨Q, 18, none⟩ = some (.int .i64 0) := (H40.out.pull 1 rfl).cell 18
      have z18 := (H40.out.pull 1 rfl).frozen 18
      go_upto_region 31 with (fail)
      have h41 := ((((H40.out.pull 1 rfl).set 16 (.int .i64 ((n38 : Int) / 16)) (by simp [Ins.vals, Fl.vals, Br.vals, Ad.vals])).set 17 (.int .i64 ((n39 : Int) / 16)) (by simp [Ins.vals, Fl.vals, Br.vals, Ad.vals])).set 18 (.int .i64 (n40 : Int)) (by simp [Ins.vals, Fl.vals, Br.vals, Ad.vals])).swap
      obtain ⟨X, hX⟩ : ∃ X : Ins, X = ⟨Fl.of n31, x34, n36, (n38 : Int) / 16, (n39 : Int) / 16, n40⟩ := ⟨_, rfl⟩
      have H41 : Hid (St w.heap.size w _ (rd b R40 g40 :: bk Q 104 X.vals :: bk P 47 ((M l).vals sv) :: bk w.heap.size 47 ZV :: ownI 104 19 sv l.length (insRow l) :: [])) := Lib.hid (by rw [hX]; exact h41)
      have hrd : readInsM R = (X, R40) := by
        rw [hX]
        unfold readInsM
        simp only [E31.out, E34.out, E36.out, E38.out, E39.out, E40.out]
        rfl
      obtain ⟨m, hm⟩ : ∃ m, c - k = m + 1 := ⟨c - k - 1, by omega⟩
      have hI2 : insM (c - (k + 1)) R40 (l ++ [X]) = X0 := by
        rw [← HI.out, hm]
        conv => rhs; unfold insM
        rw [Hn.out]
        simp only [hrd]
        rw [show c - (k + 1) = m by omega]
      have HI2 := Lib.hid hI2
      clear h41 c16 z16 c17 z17 c18 z18 H40 hX hrd hI2 HI E31 E34 E36 E38 E39 E40
      generalize World.setCell _ _ _ = w41 at *
      obtain ⟨Al, cl, rfl⟩ := own_shape (H41.out.item (k := ownI 104 19 sv l.length (insRow l)) (List.mem_of_getElem? (i := 4) rfl))
      have c44 : w41.cell? ⟨P, 44, none⟩ = some (.slice Al l.length cl) := (H41.out.pull 2 rfl).cell 44
      have hll : l.length ≤ 64 := by have := HL.out; omega
      have R41 := Lib.hid (Blk.box (H41.out.at 1 rfl)).range
      go_wp2_with (first
        | (with_reducible refine wpList_load_rng (ty := 104) X.vals (by with_unfolding_all rfl) R41.out Tryd.underlying104 (by with_unfolding_all rfl) (by with_unfolding_all exact info104) ?_)
        | ((with_reducible refine wpList_build1 X.vals elemIns ?hxb rfl (by decide) ?_)
           case hxb => rfl
           intro W42 hB42 hb42 hl42)
        | (at_builtin; refine wpList_append_st (t := 45) (e := 104) (size := 19) (bytes := 80) (n := l.length) (m := 1) (c := 1) (insRow l) X.vals elemIns ((H41.out.ext hb42).pull 4 rfl) (by with_unfolding_all rfl) (by with_unfolding_all rfl) (fun j u hj => by rw [Addr.add_mid]; exact (Blk.box hB42).range j u hj) rfl (Ins.one X) (by decide) (by unfold maxLen; omega) (by omega) (fun gT capT W43 H43 => ?_); have c44' : W43.cell? ⟨P, 44, none⟩ = some (.slice Al l.length cl) := (H43.pull 3 rfl).cell 44; have z44' := (H43.pull 3 rfl).frozen 44))
      have h45 := (((H43.pull 3 rfl).set 44 (.slice (some ⟨gT, 0, none⟩) (l.length + 1) capT) (by simp [Mst.vals, Mst.tail, Bp.len, Br.vals, Ad.vals])))
      have h46 : St w.heap.size w _ (rd b R40 g40 :: bk P 47 (((M l).vals (.slice Al l.length cl)).set 44 (.slice (some ⟨gT, 0, none⟩) (l.length + 1) capT)) :: bk w.heap.size 47 ZV :: ownI 104 19 (.slice (some ⟨gT, 0, none⟩) (l.length + 1) capT) (l.length + 1) (insRow l ++ X.vals) :: []) := (((((h45.pull 2 rfl).pull 3 rfl).tail.pull 3 rfl).pull 2 rfl).pull 2 rfl)
      have hMs : ((M l).vals (.slice Al l.length cl)).set 44 (.slice (some ⟨gT, 0, none⟩) (l.length + 1) capT) = (M (l ++ [X])).vals (.slice (some ⟨gT, 0, none⟩) (l.length + 1) capT) := by
        rw [HM.out]; rfl
      have hl1 : l.length + 1 = (l ++ [X]).length := by rw [List.length_append]; rfl
      clear h45
      generalize World.setCell _ _ _ = w46 at *
      rw [hMs, ← insRow_snoc, hl1] at h46
      have H46 := Lib.hid h46
      clear h46
      go_roundw
      case measure => simp [intOf]; omega
      case rel => exact ⟨k + 1, l ++ [X], R40, g40, _, by go_num, by omega, HI2, Lib.hid (by rw [List.length_append, HL.out]; rfl), Lib.hid (fun _ => ⟨Hg1.out, by omega, hg3⟩), H46⟩
end Go.Proofs.YteibhcocldihbaaDoor
