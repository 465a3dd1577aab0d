/- md5.Hmac. (Printed by tools/mkmd4.py.) -/
import Derived.Test.YtjekdodboihfhaaMd3
import Derived.Test.YtjekdodboihfhaaHeld
import Derived.Lib.BufferWrite
import Derived.Lib.SlBuf
set_option linter.all false
namespace Go.Proofs.Ytjekdodboihfhaa
open Go.RowKit
theorem wpAnyG_two {P : Program} {ops : Array Oper} {Q : Exit → Act → World → Prop} {md : Region.Mode} {S : World → Prop} {k : Nat} {fuel : Nat} {listed : Array Bool} {a : Act} {w : World} (i j : Nat) {o u : Oper} (hr : Region.ready md ops listed = [i, j]) (ho : ops[i]? = some o) (hu : ops[j]? = some u) (hgd : o.guard = none) (hgu : u.guard = none)
    (h : ∀ K' : Act → World → Prop, Shut (∀ a w, (i ≠ k → S w) → ((i ≠ k → S w) → wpAnyG P md ops Q S k fuel (listed.setIfInBounds i true) a w) → K' a w) → Oper.wp P o a w K' Q)
    (h2 : ∀ K' : Act → World → Prop, Shut (∀ a w, (j ≠ k → S w) → ((j ≠ k → S w) → wpAnyG P md ops Q S k fuel (listed.setIfInBounds j true) a w) → K' a w) → Oper.wp P u a w K' Q) :
    wpAnyG P md ops Q S k (fuel + 1) listed a w := by
  refine ⟨fun h0 => (by rw [hr] at h0; cases h0), fun q hq => ?_⟩
  rw [hr] at hq
  rcases List.mem_cons.1 hq with rfl | hq
  · unfold wpOp
    simp only [ho]
    rw [if_pos (by simp [Region.wanted, hgd])]
    exact .inl (h _ (fun a w h1 h2 => ⟨h1, h2 h1⟩))
  · rw [List.mem_singleton] at hq
    subst hq
    unfold wpOp
    simp only [hu]
    rw [if_pos (by simp [Region.wanted, hgu])]
    exact .inl (h2 _ (fun a w h1 h2 => ⟨h1, h2 h1⟩))
section
variable {B : Nat} {w0 w : World} {A : List It} {g : Nat}
theorem St.copyS {t : TypeId} {L : List Value} (h : St B w0 w (bk g t L :: A)) (o : Nat) (l : List UInt8) (ho : o + l.length ≤ L.length) :
    St B w0 (w.setRow g (L.take o ++ Lib.byteCells l ++ L.drop (o + l.length)).toArray) (bk g t (L.take o ++ Lib.byteCells l ++ L.drop (o + l.length)) :: A) := by
  have hB : w.heap[g]? = some (.cells L.toArray t (0, 0)) := h.head
  refine h.sets ?_ ⟨rfl, rfl, rfl, by simp [World.setRow], fun k hk => setRow_other w g k _ hk⟩
  show Blk _ g t _
  unfold Blk
  rw [setRow_heap w g _ _ t _ hB]
theorem copy_run {L : List Value} {t : TypeId} (h : St B w0 w (bk g t L :: A)) (o n cap : Nat) (l : List UInt8) (hl : l.length ≤ n) (ho : o + l.length ≤ L.length) (ty : TypeId) :
    (Builtin.copy_ #[62, 9] ty #[.slice (some ⟨g, o, none⟩) n cap, .string ⟨l.toArray⟩]).run Try.prog w = .ok (goInt l.length) (w.setRow g (L.take o ++ Lib.byteCells l ++ L.drop (o + l.length)).toArray) :=
  Lib.run_copy_row_string (P := Try.prog) w 62 9 ty 5 g o n cap ⟨l.toArray⟩ L.toArray t Try.underlying62 (by kernel_rfl) h.head hl (by show o + l.length ≤ _; simpa using ho)
end
def xAt (x : UInt8) (K : List UInt8) (i : Nat) : List UInt8 := (List.range 64).map fun j => if j < i then K.getD j 0 ^^^ x else K.getD j 0
theorem xAt_len (x : UInt8) (K : List UInt8) (i : Nat) : (xAt x K i).length = 64 := by simp [xAt]
theorem range_get (K : List UInt8) : (List.range K.length).map (fun j => K.getD j 0) = K := by
  apply List.ext_getElem?
  intro j
  by_cases h : j < K.length
  · simp [h]
  · simp [h]
theorem xAt_zero {x : UInt8} {K : List UInt8} (h : K.length = 64) : xAt x K 0 = K := by
  have := range_get K
  rw [h] at this
  unfold xAt
  simpa using this
theorem xAt_all {x : UInt8} {K : List UInt8} (h : K.length = 64) : xAt x K 64 = xorM x K := by
  have := range_get K
  rw [h] at this
  unfold xAt xorM
  conv => rhs; rw [← this]
  rw [List.map_map]
  apply List.map_congr_left
  intro j hj
  rw [if_pos (List.mem_range.1 hj)]
  rfl
theorem xAt_step (x : UInt8) (K : List UInt8) (i : Nat) : (xAt x K i).set i (K.getD i 0 ^^^ x) = xAt x K (i + 1) := by
  unfold xAt
  rw [map_set]
  congr 1
  funext j
  by_cases h : j = i
  · subst h; simp
  · by_cases h2 : j < i
    · rw [if_neg h, if_pos h2, if_pos (by omega)]
    · rw [if_neg h, if_neg h2, if_neg (by omega)]
theorem xAt_get (x : UInt8) (K : List UInt8) {i : Nat} (h : i < 64) : (xAt x K i)[i]? = some (K.getD i 0) := by
  unfold xAt
  simp [h]
theorem xor_lit (c x : UInt8) : bits .xor .u8 (c.toNat : Int) (x.toNat : Int) = ((c ^^^ x).toNat : Int) := byte_xor c x
theorem key_cells {k : List UInt8} (h : k.length ≤ 64) : zb64.take 0 ++ Lib.byteCells k ++ zb64.drop (0 + k.length) = u8C (keyM k) := by
  have e : zb64 = List.replicate 64 (.int .u8 0) := by rfl
  rw [e, List.drop_replicate]
  unfold u8C keyM
  rw [List.map_append, List.map_replicate]
  simp only [List.take_zero, List.nil_append, Nat.zero_add]
  rfl
theorem copyK {B : Nat} {w0 w : World} {A : List It} {g : Nat} (h : St B w0 w (bk g 5 zb64 :: A)) (k : List UInt8) (hk : k.length ≤ 64) (ty : TypeId) :
    ∃ w2, (Builtin.copy_ #[62, 9] ty #[.slice (some ⟨g, 0, none⟩) 64 64, .string ⟨k.toArray⟩]).run Try.prog w = .ok (goInt k.length) w2 ∧ St B w0 w2 (bk g 5 (u8C (keyM k)) :: A) := by
  have hz : (zb64 : List Value).length = 64 := rfl
  have h1 := copy_run h 0 64 64 k hk (by rw [hz]; omega) ty
  have h2 := h.copyS 0 k (by rw [hz]; omega)
  rw [key_cells hk] at h1 h2
  exact ⟨_, h1, h2⟩
theorem conv64 {B : Nat} {w0 w : World} {A : List It} {g : Nat} {l : List UInt8} (H : St B w0 w (bk g 5 (u8C l) :: A)) (hl : l.length = 64) : (convert 62 9 (.slice (some ⟨g, 0, none⟩) 64 64)).run Try.prog w = .ok (.string ⟨l.toArray⟩) w := by
  have := conv_blk H.head
  rwa [hl] at this
set_option maxRecDepth 100000 in
set_option maxHeartbeats 4000000 in
theorem hmac_any (key s : List UInt8) (hk : key.length ≤ 9000) (hs : s.length ≤ 9000) (w : World) :
    Calls Try.prog 12 #[.string ⟨key.toArray⟩, .string ⟨s.toArray⟩] w fun e w' => e = .returned (.string ⟨(hmacM key s).toArray⟩) ∧ Below w.heap.size w w' := by
  have hkl := keyS_len key
  obtain ⟨R, hR⟩ : ∃ R, hmacM key s = R := ⟨_, rfl⟩
  have hRe : R = sumM (xorM 92 (keyM (keyS key)) ++ sumM (xorM 54 (keyM (keyS key)) ++ s)) := hR.symm
  rw [hR]
  have HRe := Lib.hid hRe
  have Hs := Lib.hid hs
  have Hk := Lib.hid hk
  clear hR hRe hs hk
  by_cases hlong : 64 < key.length
  · go_enter Try.func12, Try.ntmps12
    have hl2 : (64 : Int) < (key.length : Int) := by omega
    have hsl := sumM_len key
    have HS := Lib.hid (sum_any key (by have := Hk.out; omega) w)
    have ek : keyS key = sumM key := by unfold keyS; rw [if_pos hlong]
    rw [ek] at hkl HRe
    go_upto_region 3 with (first
      | ((with_reducible refine HS.out.mono ?_)
         rintro e w1 ⟨rfl, hb1⟩
         have H1 := Lib.hid ((St.init w).ext hb1)
         clear hb1))
    clear ek hlong hl2 HS
    generalize sumM key = k at *
    have HKl := Lib.hid hkl
    have hKm := keyM_len hkl
    have hkl2 := hkl
    have HK := Lib.hid hKm
    clear hkl hKm
    have hmk := make64
    go_upto_region 3 with (fail)
    go_cut [5, 6] (fun s5 s6 wx => ∃ gi go_ : Nat, s5 = .slice (some ⟨gi, 0, none⟩) 64 64 ∧ s6 = .slice (some ⟨go_, 0, none⟩) 64 64 ∧ Hid (St w.heap.size w wx (bk gi 5 zb64 :: bk go_ 5 zb64 :: [])))
    case first =>
      refine wp_region_last (fun _ => True) 3 (by kernel_rfl) trivial (fun hHeld => ?_)
      refine wpAnyG_two 0 1 (o := ?ob) (u := ?ub) (by kernel_rfl) ?hib ?hjb ?hgb ?hub ?hab ?hbb
      case hib => (simp only [List.getElem?_toArray, List.getElem?_cons_succ, List.getElem?_cons_zero]; rfl)
      case hjb => (simp only [List.getElem?_toArray, List.getElem?_cons_succ, List.getElem?_cons_zero]; rfl)
      case hgb => rfl
      case hub => rfl
      case hab =>
        intro K hK
        go_simp
        have H2 := Lib.hid (H1.out.alloc zb64 5)
        refine hK.out _ _ (fun _ => trivial) (fun _ => ?_)
        clear hK K hHeld
        have hHeld : True := trivial
        try simp only [Act.put, List.setIfInBounds_toArray, List.set_cons_zero, List.set_cons_succ]
        refine wpAnyG_two 1 2 (o := ?oa) (u := ?ua) (by kernel_rfl) ?hia ?hja ?hga ?hua ?haa ?hba
        case hia => (simp only [List.getElem?_toArray, List.getElem?_cons_succ, List.getElem?_cons_zero]; rfl)
        case hja => (simp only [List.getElem?_toArray, List.getElem?_cons_succ, List.getElem?_cons_zero]; rfl)
        case hga => rfl
        case hua => rfl
        case haa =>
          intro K hK
          go_simp
          have H3 := Lib.hid (H1.out.alloc2 zb64 zb64 5 5)
          refine hK.out _ _ (fun _ => trivial) (fun _ => ?_)
          clear hK K hHeld
          have hHeld : True := trivial
          try simp only [Act.put, List.setIfInBounds_toArray, List.set_cons_zero, List.set_cons_succ]
          refine wpAnyG_takeG 2 (oi := ?o3) ?v3 ?hi3 (by kernel_rfl) (by kernel_rfl) (by decide) (by kernel_rfl) (by kernel_rfl) ?hq3 ?hg3 ?hy3 (by assumption) ?hk3
          case hi3 => (simp only [List.getElem?_toArray, List.getElem?_cons_succ, List.getElem?_cons_zero]; rfl)
          case hq3 => exact fun _ _ _ h => h
          case hg3 => (first | with_unfolding_all rfl | (go_simp; with_unfolding_all rfl))
          case hy3 => (intro X hX; (first | obtain ⟨hXa, hXb, hXc, hXd, hXe⟩ := hX | obtain ⟨hXa, hXb, hXc, hXd⟩ := hX | obtain ⟨hXa, hXb, hXc⟩ := hX | obtain ⟨hXa, hXb⟩ := hX | skip); go_simp; try with_reducible rfl)
          try simp only [Act.put, List.setIfInBounds_toArray, List.set_cons_zero, List.set_cons_succ]
          refine wpAnyG_one 3 (o := ?o4) (by kernel_rfl) ?hi4 ?hg4 ?hk4
          case hi4 => (simp only [List.getElem?_toArray, List.getElem?_cons_succ, List.getElem?_cons_zero]; rfl)
          case hg4 => rfl
          intro K hK
          go_simp
          refine hK.out _ _ (fun h => absurd rfl h) (fun _ => ?_)
          refine wpAnyG_done (by kernel_rfl) ?_ _
          clear hK K hHeld
          go_wp2_with fail
          go_meet
          exact ⟨_, _, rfl, rfl, Lib.hid H3.out.swap.drew⟩
        case hba =>
          intro K hK
          go_simp
          refine hK.out _ _ (fun _ => trivial) (fun _ => ?_)
          clear hK K hHeld
          have hHeld : True := trivial
          try simp only [Act.put, List.setIfInBounds_toArray, List.set_cons_zero, List.set_cons_succ]
          refine wpAnyG_one 1 (o := ?o5) (by kernel_rfl) ?hi5 ?hg5 ?hk5
          case hi5 => (simp only [List.getElem?_toArray, List.getElem?_cons_succ, List.getElem?_cons_zero]; rfl)
          case hg5 => rfl
          intro K hK
          go_simp
          have H3 := Lib.hid (H1.out.alloc2 zb64 zb64 5 5)
          refine hK.out _ _ (fun _ => trivial) (fun _ => ?_)
          clear hK K hHeld
          have hHeld : True := trivial
          try simp only [Act.put, List.setIfInBounds_toArray, List.set_cons_zero, List.set_cons_succ]
          refine wpAnyG_one 3 (o := ?o6) (by kernel_rfl) ?hi6 ?hg6 ?hk6
          case hi6 => (simp only [List.getElem?_toArray, List.getElem?_cons_succ, List.getElem?_cons_zero]; rfl)
          case hg6 => rfl
          intro K hK
          go_simp
          refine hK.out _ _ (fun h => absurd rfl h) (fun _ => ?_)
          refine wpAnyG_done (by kernel_rfl) ?_ _
          clear hK K hHeld
          go_wp2_with fail
          go_meet
          exact ⟨_, _, rfl, rfl, Lib.hid H3.out.swap.drew⟩
      case hbb =>
        intro K hK
        go_simp
        have H2 := Lib.hid (H1.out.alloc zb64 5)
        refine hK.out _ _ (fun _ => trivial) (fun _ => ?_)
        clear hK K hHeld
        have hHeld : True := trivial
        try simp only [Act.put, List.setIfInBounds_toArray, List.set_cons_zero, List.set_cons_succ]
        refine wpAnyG_one 0 (o := ?o7) (by kernel_rfl) ?hi7 ?hg7 ?hk7
        case hi7 => (simp only [List.getElem?_toArray, List.getElem?_cons_succ, List.getElem?_cons_zero]; rfl)
        case hg7 => rfl
        intro K hK
        go_simp
        have H3 := Lib.hid (H1.out.alloc2 zb64 zb64 5 5)
        refine hK.out _ _ (fun _ => trivial) (fun _ => ?_)
        clear hK K hHeld
        have hHeld : True := trivial
        try simp only [Act.put, List.setIfInBounds_toArray, List.set_cons_zero, List.set_cons_succ]
        refine wpAnyG_takeG 2 (oi := ?o9) ?v9 ?hi9 (by kernel_rfl) (by kernel_rfl) (by decide) (by kernel_rfl) (by kernel_rfl) ?hq9 ?hg9 ?hy9 (by assumption) ?hk9
        case hi9 => (simp only [List.getElem?_toArray, List.getElem?_cons_succ, List.getElem?_cons_zero]; rfl)
        case hq9 => exact fun _ _ _ h => h
        case hg9 => (first | with_unfolding_all rfl | (go_simp; with_unfolding_all rfl))
        case hy9 => (intro X hX; (first | obtain ⟨hXa, hXb, hXc, hXd, hXe⟩ := hX | obtain ⟨hXa, hXb, hXc, hXd⟩ := hX | obtain ⟨hXa, hXb, hXc⟩ := hX | obtain ⟨hXa, hXb⟩ := hX | skip); go_simp; try with_reducible rfl)
        try simp only [Act.put, List.setIfInBounds_toArray, List.set_cons_zero, List.set_cons_succ]
        refine wpAnyG_one 3 (o := ?o10) (by kernel_rfl) ?hi10 ?hg10 ?hk10
        case hi10 => (simp only [List.getElem?_toArray, List.getElem?_cons_succ, List.getElem?_cons_zero]; rfl)
        case hg10 => rfl
        intro K hK
        go_simp
        refine hK.out _ _ (fun h => absurd rfl h) (fun _ => ?_)
        refine wpAnyG_done (by kernel_rfl) ?_ _
        clear hK K hHeld
        go_wp2_with fail
        go_meet
        exact ⟨_, _, rfl, rfl, Lib.hid H3.out.drew⟩
    case rest =>
    obtain ⟨gi, go_, rfl, rfl, H3⟩ := hcut
    clear hmk
    go_upto_region 4 with (fail)
    obtain ⟨w4, hr4, h4⟩ := copyK H3.out k hkl2 3
    have H4 := Lib.hid h4.swap
    clear h4 H3
    go_upto_region 5 with (fail)
    obtain ⟨w5, hr5, h5⟩ := copyK H4.out k hkl2 3
    have H5 := Lib.hid h5
    clear h5 H4 hr4
    go_upto_region 6 with (fail)
    clear hr5
    have H6 : Hid (St w.heap.size w w5 (bk go_ 5 (u8C (xAt 92 (keyM k) 0)) :: bk gi 5 (u8C (xAt 54 (keyM k) 0)) :: [])) := by
      rw [xAt_zero HK.out, xAt_zero HK.out]
      exact H5
    clear H5
    generalize keyM k = K at *
    go_wp2_with fail
    go_loopw [23] (fun s23 wr => ∃ i : Nat, i ≤ 64 ∧ s23 = .int .i64 (i : Int) ∧ Hid (St w.heap.size w wr (bk go_ 5 (u8C (xAt 92 K i)) :: bk gi 5 (u8C (xAt 54 K i)) :: []))) (fun i _ => 64 - (intOf i).toNat)
    case atStart => exact ⟨0, by omega, rfl, H6⟩
    case round =>
      obtain ⟨i, hi0, rfl, HR⟩ := hrel
      clear H6
      by_cases hlt : i < 64
      · have hI : (i : Int) < 64 := by omega
        have hI0 : (0 : Int) ≤ (i : Int) := by omega
        obtain ⟨c, hc⟩ : ∃ c, K.getD i 0 = c := ⟨_, rfl⟩
        have hx5 : bits .xor .u8 (c.toNat : Int) 54 = ((c ^^^ 54).toNat : Int) := xor_lit c 54
        have hx9 : bits .xor .u8 (c.toNat : Int) 92 = ((c ^^^ 92).toNat : Int) := xor_lit c 92
        have e5 := xAt_step 54 K i
        have e9 := xAt_step 92 K i
        rw [hc] at e5 e9
        generalize c ^^^ 54 = c5 at *
        generalize c ^^^ 92 = c9 at *
        have g5 := xAt_get 54 K hlt
        have g9 := xAt_get 92 K hlt
        rw [hc] at g5 g9
        have l5 := xAt_len 54 K i
        have l9 := xAt_len 92 K i
        generalize xAt 54 K i = L5 at *
        generalize xAt 92 K i = L9 at *
        have HR1 := Lib.hid HR.out.swap
        have hold : wr.cell? ⟨gi, i, none⟩ = some (.int .u8 (c.toNat : Int)) := by
          rw [HR1.out.cell i]
          simp [u8C, g5]
        have hfz := HR1.out.frozen i
        have Hset := Lib.hid (HR1.out.set i (.int .u8 (c5.toNat : Int)) (by rw [u8C, List.length_map, l5]; exact hlt))
        rw [u8C_set, e5] at Hset
        clear HR HR1 hc
        go_upto_region 10 with (fail)
        generalize World.setCell _ _ _ = w7 at *
        clear hold hfz hx5
        have HR2 := Lib.hid Hset.out.swap
        clear Hset
        have hold : w7.cell? ⟨go_, i, none⟩ = some (.int .u8 (c.toNat : Int)) := by
          rw [HR2.out.cell i]
          simp [u8C, g9]
        have hfz := HR2.out.frozen i
        have Hset := Lib.hid (HR2.out.set i (.int .u8 (c9.toNat : Int)) (by rw [u8C, List.length_map, l9]; exact hlt))
        rw [u8C_set, e9] at Hset
        clear HR2
        go_wp2_with fail
        go_roundw
        case rel => exact ⟨i + 1, by omega, by go_num, Hset⟩
        case measure => simp [intOf]; omega
      · obtain rfl : i = 64 := by omega
        rw [xAt_all HK.out, xAt_all HK.out] at HR
        have l5 : (xorM 54 K).length = 64 := by unfold xorM; rw [List.length_map]; exact HK.out
        have l9 : (xorM 92 K).length = 64 := by unfold xorM; rw [List.length_map]; exact HK.out
        generalize xorM 54 K = K5 at *
        generalize xorM 92 K = K9 at *
        have sl := sumM_len (K5 ++ s)
        have Hs5 : Hid (∀ W, Calls Try.prog 13 #[.string ⟨(K5 ++ s).toArray⟩] W fun e w' => e = .returned (.string ⟨(sumM (K5 ++ s)).toArray⟩) ∧ Below W.heap.size W w') := Lib.hid (sum_any (K5 ++ s) (by rw [List.length_append, l5]; have := Hs.out; omega))
        generalize sumM (K5 ++ s) = T at *
        have Hs9 : Hid (∀ W, Calls Try.prog 13 #[.string ⟨(K9 ++ T).toArray⟩] W fun e w' => e = .returned (.string ⟨(sumM (K9 ++ T)).toArray⟩) ∧ Below W.heap.size W w') := Lib.hid (sum_any (K9 ++ T) (by rw [List.length_append, l9, sl]; omega))
        rw [← HRe.out] at Hs9
        have hq5 : ∀ x : Ext wr, (convert 62 9 (.slice (some ⟨gi, 0, none⟩) 64 64)).run Try.prog x.val = .ok (.string ⟨K5.toArray⟩) x.val := fun x => conv64 (HR.out.ext x.below).swap l5
        have hq9 : ∀ x : Ext wr, (convert 62 9 (.slice (some ⟨go_, 0, none⟩) 64 64)).run Try.prog x.val = .ok (.string ⟨K9.toArray⟩) x.val := fun x => conv64 (HR.out.ext x.below) l9
        have hsl := Hs.out
        have hsz5 : ¬ 9223372036854775807 < K5.length + s.length := by rw [l5]; omega
        have hsz9 : ¬ 9223372036854775807 < K9.length + T.length := by rw [l9, sl]; omega
        go_upto_region 12 with (fail)
        refine wp_region_ext (by kernel_rfl) (by kernel_rfl) ?_
        repeat (go_big_quiet_step (fail))
        go_big_quiet_step ((go_at_call 13; exact Calls.ext _ (Hs5.out _)))
        repeat (go_big_quiet_step (fail))
        go_big_quiet_step ((go_at_call 13; exact Calls.ext _ (Hs9.out _)))
        repeat (go_big_quiet_step (fail))
        refine wpQuiet_nil ?_
        rintro w8 ⟨⟨_, hb8⟩, rfl⟩
        try simp only [] at *
        have H8 := Lib.hid (HR.out.ext hb8)
        clear hb8 hq5 hq9
        go_wp2_with fail
        go_ret
        exact ⟨rfl, H8.out.below⟩
  · have ek : keyS key = key := by unfold keyS; rw [if_neg hlong]
    rw [ek] at hkl HRe
    have hl2 : ¬ (64 : Int) < (key.length : Int) := by omega
    clear ek hlong
    have H1 := Lib.hid (St.init w)
    go_enter Try.func12, Try.ntmps12
    generalize key = k at *
    have HKl := Lib.hid hkl
    have hKm := keyM_len hkl
    have hkl2 := hkl
    have HK := Lib.hid hKm
    clear hkl hKm
    have hmk := make64
    go_upto_region 3 with (fail)
    go_cut [5, 6] (fun s5 s6 wx => ∃ gi go_ : Nat, s5 = .slice (some ⟨gi, 0, none⟩) 64 64 ∧ s6 = .slice (some ⟨go_, 0, none⟩) 64 64 ∧ Hid (St w.heap.size w wx (bk gi 5 zb64 :: bk go_ 5 zb64 :: [])))
    case first =>
      refine wp_region_last (fun _ => True) 3 (by kernel_rfl) trivial (fun hHeld => ?_)
      refine wpAnyG_two 0 1 (o := ?od) (u := ?ud) (by kernel_rfl) ?hid ?hjd ?hgd ?hud ?had ?hbd
      case hid => (simp only [List.getElem?_toArray, List.getElem?_cons_succ, List.getElem?_cons_zero]; rfl)
      case hjd => (simp only [List.getElem?_toArray, List.getElem?_cons_succ, List.getElem?_cons_zero]; rfl)
      case hgd => rfl
      case hud => rfl
      case had =>
        intro K hK
        go_simp
        have H2 := Lib.hid (H1.out.alloc zb64 5)
        refine hK.out _ _ (fun _ => trivial) (fun _ => ?_)
        clear hK K hHeld
        have hHeld : True := trivial
        try simp only [Act.put, List.setIfInBounds_toArray, List.set_cons_zero, List.set_cons_succ]
        refine wpAnyG_two 1 2 (o := ?oc) (u := ?uc) (by kernel_rfl) ?hic ?hjc ?hgc ?huc ?hac ?hbc
        case hic => (simp only [List.getElem?_toArray, List.getElem?_cons_succ, List.getElem?_cons_zero]; rfl)
        case hjc => (simp only [List.getElem?_toArray, List.getElem?_cons_succ, List.getElem?_cons_zero]; rfl)
        case hgc => rfl
        case huc => rfl
        case hac =>
          intro K hK
          go_simp
          have H3 := Lib.hid (H1.out.alloc2 zb64 zb64 5 5)
          refine hK.out _ _ (fun _ => trivial) (fun _ => ?_)
          clear hK K hHeld
          have hHeld : True := trivial
          try simp only [Act.put, List.setIfInBounds_toArray, List.set_cons_zero, List.set_cons_succ]
          refine wpAnyG_takeG 2 (oi := ?o12) ?v12 ?hi12 (by kernel_rfl) (by kernel_rfl) (by decide) (by kernel_rfl) (by kernel_rfl) ?hq12 ?hg12 ?hy12 (by assumption) ?hk12
          case hi12 => (simp only [List.getElem?_toArray, List.getElem?_cons_succ, List.getElem?_cons_zero]; rfl)
          case hq12 => exact fun _ _ _ h => h
          case hg12 => (first | with_unfolding_all rfl | (go_simp; with_unfolding_all rfl))
          case hy12 => (intro X hX; (first | obtain ⟨hXa, hXb, hXc, hXd, hXe⟩ := hX | obtain ⟨hXa, hXb, hXc, hXd⟩ := hX | obtain ⟨hXa, hXb, hXc⟩ := hX | obtain ⟨hXa, hXb⟩ := hX | skip); go_simp; try with_reducible rfl)
          try simp only [Act.put, List.setIfInBounds_toArray, List.set_cons_zero, List.set_cons_succ]
          refine wpAnyG_one 3 (o := ?o13) (by kernel_rfl) ?hi13 ?hg13 ?hk13
          case hi13 => (simp only [List.getElem?_toArray, List.getElem?_cons_succ, List.getElem?_cons_zero]; rfl)
          case hg13 => rfl
          intro K hK
          go_simp
          refine hK.out _ _ (fun h => absurd rfl h) (fun _ => ?_)
          refine wpAnyG_done (by kernel_rfl) ?_ _
          clear hK K hHeld
          go_wp2_with fail
          go_meet
          exact ⟨_, _, rfl, rfl, Lib.hid H3.out.swap.drew⟩
        case hbc =>
          intro K hK
          go_simp
          refine hK.out _ _ (fun _ => trivial) (fun _ => ?_)
          clear hK K hHeld
          have hHeld : True := trivial
          try simp only [Act.put, List.setIfInBounds_toArray, List.set_cons_zero, List.set_cons_succ]
          refine wpAnyG_one 1 (o := ?o14) (by kernel_rfl) ?hi14 ?hg14 ?hk14
          case hi14 => (simp only [List.getElem?_toArray, List.getElem?_cons_succ, List.getElem?_cons_zero]; rfl)
          case hg14 => rfl
          intro K hK
          go_simp
          have H3 := Lib.hid (H1.out.alloc2 zb64 zb64 5 5)
          refine hK.out _ _ (fun _ => trivial) (fun _ => ?_)
          clear hK K hHeld
          have hHeld : True := trivial
          try simp only [Act.put, List.setIfInBounds_toArray, List.set_cons_zero, List.set_cons_succ]
          refine wpAnyG_one 3 (o := ?o15) (by kernel_rfl) ?hi15 ?hg15 ?hk15
          case hi15 => (simp only [List.getElem?_toArray, List.getElem?_cons_succ, List.getElem?_cons_zero]; rfl)
          case hg15 => rfl
          intro K hK
          go_simp
          refine hK.out _ _ (fun h => absurd rfl h) (fun _ => ?_)
          refine wpAnyG_done (by kernel_rfl) ?_ _
          clear hK K hHeld
          go_wp2_with fail
          go_meet
          exact ⟨_, _, rfl, rfl, Lib.hid H3.out.swap.drew⟩
      case hbd =>
        intro K hK
        go_simp
        have H2 := Lib.hid (H1.out.alloc zb64 5)
        refine hK.out _ _ (fun _ => trivial) (fun _ => ?_)
        clear hK K hHeld
        have hHeld : True := trivial
        try simp only [Act.put, List.setIfInBounds_toArray, List.set_cons_zero, List.set_cons_succ]
        refine wpAnyG_one 0 (o := ?o16) (by kernel_rfl) ?hi16 ?hg16 ?hk16
        case hi16 => (simp only [List.getElem?_toArray, List.getElem?_cons_succ, List.getElem?_cons_zero]; rfl)
        case hg16 => rfl
        intro K hK
        go_simp
        have H3 := Lib.hid (H1.out.alloc2 zb64 zb64 5 5)
        refine hK.out _ _ (fun _ => trivial) (fun _ => ?_)
        clear hK K hHeld
        have hHeld : True := trivial
        try simp only [Act.put, List.setIfInBounds_toArray, List.set_cons_zero, List.set_cons_succ]
        refine wpAnyG_takeG 2 (oi := ?o18) ?v18 ?hi18 (by kernel_rfl) (by kernel_rfl) (by decide) (by kernel_rfl) (by kernel_rfl) ?hq18 ?hg18 ?hy18 (by assumption) ?hk18
        case hi18 => (simp only [List.getElem?_toArray, List.getElem?_cons_succ, List.getElem?_cons_zero]; rfl)
        case hq18 => exact fun _ _ _ h => h
        case hg18 => (first | with_unfolding_all rfl | (go_simp; with_unfolding_all rfl))
        case hy18 => (intro X hX; (first | obtain ⟨hXa, hXb, hXc, hXd, hXe⟩ := hX | obtain ⟨hXa, hXb, hXc, hXd⟩ := hX | obtain ⟨hXa, hXb, hXc⟩ := hX | obtain ⟨hXa, hXb⟩ := hX | skip); go_simp; try with_reducible rfl)
        try simp only [Act.put, List.setIfInBounds_toArray, List.set_cons_zero, List.set_cons_succ]
        refine wpAnyG_one 3 (o := ?o19) (by kernel_rfl) ?hi19 ?hg19 ?hk19
        case hi19 => (simp only [List.getElem?_toArray, List.getElem?_cons_succ, List.getElem?_cons_zero]; rfl)
        case hg19 => rfl
        intro K hK
        go_simp
        refine hK.out _ _ (fun h => absurd rfl h) (fun _ => ?_)
        refine wpAnyG_done (by kernel_rfl) ?_ _
        clear hK K hHeld
        go_wp2_with fail
        go_meet
        exact ⟨_, _, rfl, rfl, Lib.hid H3.out.drew⟩
    case rest =>
    obtain ⟨gi, go_, rfl, rfl, H3⟩ := hcut
    clear hmk
    go_upto_region 4 with (fail)
    obtain ⟨w4, hr4, h4⟩ := copyK H3.out k hkl2 3
    have H4 := Lib.hid h4.swap
    clear h4 H3
    go_upto_region 5 with (fail)
    obtain ⟨w5, hr5, h5⟩ := copyK H4.out k hkl2 3
    have H5 := Lib.hid h5
    clear h5 H4 hr4
    go_upto_region 6 with (fail)
    clear hr5
    have H6 : Hid (St w.heap.size w w5 (bk go_ 5 (u8C (xAt 92 (keyM k) 0)) :: bk gi 5 (u8C (xAt 54 (keyM k) 0)) :: [])) := by
      rw [xAt_zero HK.out, xAt_zero HK.out]
      exact H5
    clear H5
    generalize keyM k = K at *
    go_wp2_with fail
    go_loopw [23] (fun s23 wr => ∃ i : Nat, i ≤ 64 ∧ s23 = .int .i64 (i : Int) ∧ Hid (St w.heap.size w wr (bk go_ 5 (u8C (xAt 92 K i)) :: bk gi 5 (u8C (xAt 54 K i)) :: []))) (fun i _ => 64 - (intOf i).toNat)
    case atStart => exact ⟨0, by omega, rfl, H6⟩
    case round =>
      obtain ⟨i, hi0, rfl, HR⟩ := hrel
      clear H6
      by_cases hlt : i < 64
      · have hI : (i : Int) < 64 := by omega
        have hI0 : (0 : Int) ≤ (i : Int) := by omega
        obtain ⟨c, hc⟩ : ∃ c, K.getD i 0 = c := ⟨_, rfl⟩
        have hx5 : bits .xor .u8 (c.toNat : Int) 54 = ((c ^^^ 54).toNat : Int) := xor_lit c 54
        have hx9 : bits .xor .u8 (c.toNat : Int) 92 = ((c ^^^ 92).toNat : Int) := xor_lit c 92
        have e5 := xAt_step 54 K i
        have e9 := xAt_step 92 K i
        rw [hc] at e5 e9
        generalize c ^^^ 54 = c5 at *
        generalize c ^^^ 92 = c9 at *
        have g5 := xAt_get 54 K hlt
        have g9 := xAt_get 92 K hlt
        rw [hc] at g5 g9
        have l5 := xAt_len 54 K i
        have l9 := xAt_len 92 K i
        generalize xAt 54 K i = L5 at *
        generalize xAt 92 K i = L9 at *
        have HR1 := Lib.hid HR.out.swap
        have hold : wr.cell? ⟨gi, i, none⟩ = some (.int .u8 (c.toNat : Int)) := by
          rw [HR1.out.cell i]
          simp [u8C, g5]
        have hfz := HR1.out.frozen i
        have Hset := Lib.hid (HR1.out.set i (.int .u8 (c5.toNat : Int)) (by rw [u8C, List.length_map, l5]; exact hlt))
        rw [u8C_set, e5] at Hset
        clear HR HR1 hc
        go_upto_region 10 with (fail)
        generalize World.setCell _ _ _ = w7 at *
        clear hold hfz hx5
        have HR2 := Lib.hid Hset.out.swap
        clear Hset
        have hold : w7.cell? ⟨go_, i, none⟩ = some (.int .u8 (c.toNat : Int)) := by
          rw [HR2.out.cell i]
          simp [u8C, g9]
        have hfz := HR2.out.frozen i
        have Hset := Lib.hid (HR2.out.set i (.int .u8 (c9.toNat : Int)) (by rw [u8C, List.length_map, l9]; exact hlt))
        rw [u8C_set, e9] at Hset
        clear HR2
        go_wp2_with fail
        go_roundw
        case rel => exact ⟨i + 1, by omega, by go_num, Hset⟩
        case measure => simp [intOf]; omega
      · obtain rfl : i = 64 := by omega
        rw [xAt_all HK.out, xAt_all HK.out] at HR
        have l5 : (xorM 54 K).length = 64 := by unfold xorM; rw [List.length_map]; exact HK.out
        have l9 : (xorM 92 K).length = 64 := by unfold xorM; rw [List.length_map]; exact HK.out
        generalize xorM 54 K = K5 at *
        generalize xorM 92 K = K9 at *
        have sl := sumM_len (K5 ++ s)
        have Hs5 : Hid (∀ W, Calls Try.prog 13 #[.string ⟨(K5 ++ s).toArray⟩] W fun e w' => e = .returned (.string ⟨(sumM (K5 ++ s)).toArray⟩) ∧ Below W.heap.size W w') := Lib.hid (sum_any (K5 ++ s) (by rw [List.length_append, l5]; have := Hs.out; omega))
        generalize sumM (K5 ++ s) = T at *
        have Hs9 : Hid (∀ W, Calls Try.prog 13 #[.string ⟨(K9 ++ T).toArray⟩] W fun e w' => e = .returned (.string ⟨(sumM (K9 ++ T)).toArray⟩) ∧ Below W.heap.size W w') := Lib.hid (sum_any (K9 ++ T) (by rw [List.length_append, l9, sl]; omega))
        rw [← HRe.out] at Hs9
        have hq5 : ∀ x : Ext wr, (convert 62 9 (.slice (some ⟨gi, 0, none⟩) 64 64)).run Try.prog x.val = .ok (.string ⟨K5.toArray⟩) x.val := fun x => conv64 (HR.out.ext x.below).swap l5
        have hq9 : ∀ x : Ext wr, (convert 62 9 (.slice (some ⟨go_, 0, none⟩) 64 64)).run Try.prog x.val = .ok (.string ⟨K9.toArray⟩) x.val := fun x => conv64 (HR.out.ext x.below) l9
        have hsl := Hs.out
        have hsz5 : ¬ 9223372036854775807 < K5.length + s.length := by rw [l5]; omega
        have hsz9 : ¬ 9223372036854775807 < K9.length + T.length := by rw [l9, sl]; omega
        go_upto_region 12 with (fail)
        refine wp_region_ext (by kernel_rfl) (by kernel_rfl) ?_
        repeat (go_big_quiet_step (fail))
        go_big_quiet_step ((go_at_call 13; exact Calls.ext _ (Hs5.out _)))
        repeat (go_big_quiet_step (fail))
        go_big_quiet_step ((go_at_call 13; exact Calls.ext _ (Hs9.out _)))
        repeat (go_big_quiet_step (fail))
        refine wpQuiet_nil ?_
        rintro w8 ⟨⟨_, hb8⟩, rfl⟩
        try simp only [] at *
        have H8 := Lib.hid (HR.out.ext hb8)
        clear hb8 hq5 hq9
        go_wp2_with fail
        go_ret
        exact ⟨rfl, H8.out.below⟩
end Go.Proofs.Ytjekdodboihfhaa
