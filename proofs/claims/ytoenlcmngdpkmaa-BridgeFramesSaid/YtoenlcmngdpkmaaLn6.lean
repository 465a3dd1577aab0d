/- The table of addresses by what a call owns: DeleteFunc, Delete, New, Learn, Forget. -/
import Derived.Test.YtoenlcmngdpkmaaLn5
import Derived.Test.YtoenlcmngdpkmaaSt
import Derived.Test.YtoenlcmngdpkmaaHeld
import Derived.Deep.RegionHeld3
import Derived.Deep.AppendLies
namespace Go.Proofs.Ytoenlcmngdpkmaa
open Go.RowKit
/-- A row of entries of one's own. -/
def rowI (sv : Value) (es : List Ent) : It where
  gs := sv.ownBlock.toList
  P w := w.ownsRow 0 88 9 sv es.length (erows es)
  lt w h g hg := (h.lt g (by simpa [eq_comm] using hg)).2
  loc w W h hs hp := by
    refine ⟨hp.1, ?_⟩
    rcases hp.2 with h' | ⟨g, cap, cur, e1, e2, hh, r⟩
    · exact .inl h'
    · exact .inr ⟨g, cap, cur, e1, e2, (h g (by rw [e1]; simp [Value.ownBlock])).trans hh, r⟩
/-- What a call does with a row: another one, in the same place. -/
def RowTo (w : World) (sv : Value) (out : List Ent) (e : Ending) (w' : World) : Prop :=
  ∃ sv', e = .returned sv' ∧ w'.ownsRow 0 88 9 sv' out.length (erows out) ∧ sv'.ownBlock = sv.ownBlock ∧ Fr sv.ownBlock.toList w w'
theorem But.fr {g : Nat} {w W : World} (h : But g w W) : Fr [g] w W := ⟨h.os, h.tape, h.output, h.size, fun k hk hn => h.block k hk (fun e => hn (by rw [e]; exact List.mem_singleton.2 rfl))⟩
theorem Fr.but {g : Nat} {w W : World} (h : Fr [g] w W) : But g w W := ⟨h.os, h.tape, h.output, h.size, fun k hk hn => h.block k hk (fun e => hn (List.mem_singleton.1 e))⟩
set_option maxRecDepth 100000 in
theorem delf_nil (A : Option Addr) (cap f : Nat) (caps : Array Value) (hf : ∀ (args : Array Value) (W : World), (callFunc f args).run Try.prog W = .ok (.enter f args) W) (w : World) :
    Calls Try.prog 47 #[.slice A ((0 : Nat) : Int).toNat cap, .func (.func f) #[] caps] w fun e w' => e = .returned (.slice A 0 cap) ∧ Below w.heap.size w w' := by
  have hI := idx_ent Ent.vals Ent.len (fun _ => true) [] 0 rfl A cap f caps w (by omega) (fun h => absurd h (by simp)) hf (fun k hk => absurd hk (by simp))
  rw [show idxP (fun _ : Ent => true) [] = -1 from rfl] at hI
  have HI := Lib.hid hI
  clear hI hf
  go_enter Try.func47, Try.ntmps47
  go_wp2_with (first
    | ((with_reducible refine HI.out.mono ?_)
       rintro e w1 ⟨rfl, hb1⟩
       skip)
    )
  go_ret
  exact ⟨rfl, hb1⟩
theorem delf_any (es : List Ent) (p : Ent → Bool) (sv : Value) (f : Nat) (caps : Array Value) (hn : es.length ≤ 32) (w : World)
    (hown : w.ownsRow 0 88 9 sv es.length (erows es))
    (hf : ∀ (args : Array Value) (W : World), (callFunc f args).run Try.prog W = .ok (.enter f args) W)
    (hp : ∀ e ∈ es, ∀ W, Fr sv.ownBlock.toList w W → Calls Try.prog f (#[.agg e.vals.toArray] ++ caps) W fun e' w' => e' = .returned (.bool (p e)) ∧ Below W.heap.size W w') :
    Calls Try.prog 47 #[sv, .func (.func f) #[] caps] w (RowTo w sv (es.filter fun e => !p e)) := by
  by_cases h0 : es = []
  · subst h0
    obtain ⟨A, cap, e⟩ := own_shape hown
    subst e
    refine (delf_nil A cap f caps hf w).mono ?_
    rintro e w1 ⟨rfl, hb⟩
    exact ⟨_, rfl, own_below hown hb (Nat.le_refl _), rfl, Fr.of_below hb _⟩
  · have hpos : 0 < es.length := List.length_pos_iff.2 h0
    have hown2 := hown
    rcases hown.2 with ⟨_, h'⟩ | ⟨g, cap, cur, rfl, _, _, hcap, hmax, _, _⟩
    · omega
    · unfold maxLen at hmax
      refine (delf_some es p es.length g cap 0 f caps rfl hn hcap hmax w hown2 hpos hf (fun e he W hW => hp e he W hW.fr)).mono ?_
      rintro e w1 ⟨rfl, ho, hb⟩
      exact ⟨_, rfl, ho, rfl, hb.fr⟩
theorem delete_any (es : List Ent) (sv : Value) (hn : es.length = 32) (w : World) (hown : w.ownsRow 0 88 9 sv es.length (erows es)) :
    Calls Try.prog 49 #[sv, .int .i64 0, .int .i64 1] w (RowTo w sv es.tail) := by
  rcases hown.2 with ⟨_, h'⟩ | ⟨g, cap, cur, rfl, _, _, hcap, hmax, _, _⟩
  · omega
  · unfold maxLen at hmax
    refine (delete_first es es.length g cap 0 rfl (by omega) (by omega) hcap hmax w hown).mono ?_
    rintro e w1 ⟨rfl, ho, hb⟩
    exact ⟨_, rfl, ho, rfl, hb.fr⟩
section
variable {B : Nat} {w0 w : World} {A : List It}
theorem newt_st (H : St B w0 w A) (age : Int) (h1 : 1 ≤ age) (h2 : age ≤ 300) :
    Calls Try.prog 45 #[.int .i64 age] w fun e w' => e = .returned (.tuple #[.pointer (some ⟨w.heap.size, 0, none⟩), .nilIface]) ∧ St B w0 w' (bk w.heap.size 86 [.int .i64 age, .int .i64 0, .slice none 0 0] :: rowI (.slice none 0 0) [] :: A) := by
  have hz : w.ownsRow 0 88 9 (.slice none 0 0) 0 (erows []) := ⟨rfl, .inl ⟨rfl, rfl⟩⟩
  have h3 := (H.add (k := rowI (.slice none 0 0) []) (Below.refl _ _) hz (fun g hg => by cases hg)).alloc [.int .i64 age, .int .i64 0, .slice none 0 0] 86
  have H3 := Lib.hid h3
  clear h3 H hz
  go_enter Try.func45, Try.ntmps45
  go_wp2_with fail
  go_ret2
  exact ⟨rfl, H3.out⟩
theorem St.row {W : World} {sv sv' : Value} {es out : List Ent} (h : St B w0 w (rowI sv es :: A)) (ho : W.ownsRow 0 88 9 sv' out.length (erows out)) (hb : sv'.ownBlock = sv.ownBlock) (hf : Fr sv.ownBlock.toList w W) : St B w0 W (rowI sv' out :: A) :=
  h.step (k' := rowI sv' out) hf ho (fun g hg => .inl (by
    have hg' : g ∈ sv'.ownBlock.toList := hg
    rw [hb] at hg'; exact hg'))
set_option maxRecDepth 100000 in
set_option maxHeartbeats 4000000 in
theorem forget_st {T : Nat} {age now : Int} {sv : Value} {es : List Ent} (H : St B w0 w (bk T 86 [.int .i64 age, .int .i64 now, sv] :: rowI sv es :: A)) (hn : es.length ≤ 32) (port : Int) :
    Calls Try.prog 21 #[.pointer (some ⟨T, 0, none⟩), .int .i64 port] w fun e w' => e = .returned (.tuple #[]) ∧ ∃ sv', St B w0 w' (bk T 86 [.int .i64 age, .int .i64 now, sv'] :: rowI sv' (forgetM es port) :: A) := by
  have hff : ∀ (args : Array Value) (W : World), (callFunc 50 args).run Try.prog W = .ok (.enter 50 args) W := fun args W => by kernel_rfl
  have h2 := H.alloc [.int .i64 port] 3
  have hT : Blk (w.alloc (.cells #[.int .i64 port] 3)) T 86 [.int .i64 age, .int .i64 now, sv] := h2.at 1 rfl
  have hP : Blk (w.alloc (.cells #[.int .i64 port] 3)) w.heap.size 3 [.int .i64 port] := h2.at 0 rfl
  have hO : (w.alloc (.cells #[.int .i64 port] 3)).ownsRow 0 88 9 sv es.length (erows es) := h2.item (k := rowI sv es) (List.mem_of_getElem? (i := 2) rfl)
  have hTn : T ∉ sv.ownBlock.toList := h2.dis 1 2 (by decide) rfl rfl T (List.mem_singleton.2 rfl)
  have hPn : w.heap.size ∉ sv.ownBlock.toList := h2.dis 0 2 (by decide) rfl rfl _ (List.mem_singleton.2 rfl)
  have H2 := Lib.hid h2
  clear h2 H
  go_enter Try.func21, Try.ntmps21
  go_upto_region 1 with (fail)
  generalize w.alloc (.cells #[.int .i64 port] 3) = W1 at *
  generalize w.heap.size = PP at *
  have hD : Calls Try.prog 47 #[sv, .func (.func 50) #[] #[.pointer (some ⟨PP, 0, none⟩)]] W1 (RowTo W1 sv (forgetM es port)) :=
    delf_any es (fun e => decide (e.port = port)) sv _ _ hn W1 hO hff (fun e _ X hX => forget1_any e port PP X (hX.blk hP hPn))
  have HD := Lib.hid hD
  have Hn := Lib.hid hn
  have c2 := hT.box.cell 2
  have c2' : W1.cell? ⟨T, 2, none⟩ = some sv := c2
  have HT := Lib.hid hT
  have HTn := Lib.hid hTn
  clear hD hP hO hn c2 hT hTn hPn
  go_wp2_with (first
    | ((with_reducible refine HD.out.mono ?_)
       rintro e w3 ⟨sv3, rfl, hO3, hob3, hf3⟩
       obtain ⟨A3, c3, rfl⟩ := own_shape hO3
       have hB3 := (hf3.blk HT.out HTn.out).box
       have d2 : w3.cell? ⟨T, 2, none⟩ = some sv := hB3.cell 2
       have z2 := hB3.frozen 2
       clear hB3)
    )
  go_returns
  have h3 := St.row (H2.out.pull 2 rfl) hO3 hob3 hf3
  have h4 := (h3.pull 2 rfl).set 2 (.slice A3 (forgetM es port).length c3) (by simp)
  exact ⟨rfl, _, (h4.pull 2 rfl).tail⟩
def LrnCut (B : Nat) (w0 : World) (T PN PA PV PT : Nat) (age t vid : Int) (a : Ad) (A : List It) (out : List Ent) (x : Ent) (wx : World) : Prop :=
  ∃ kr A8 c8, kr.length ≤ 31 ∧ out = kr ++ [x] ∧ St B w0 wx (bk T 86 [.int .i64 age, .int .i64 t, .slice A8 kr.length c8] :: rowI (.slice A8 kr.length c8) kr :: bk PN 3 [.int .i64 t] :: bk PA 30 a.vals :: bk PV 3 [.int .i64 vid] :: bk PT 24 [.pointer (some ⟨T, 0, none⟩)] :: A)
set_option maxRecDepth 100000 in
set_option maxHeartbeats 4000000 in
theorem learn_st {T : Nat} {age now : Int} {sv : Value} {es : List Ent} (H : St B w0 w (bk T 86 [.int .i64 age, .int .i64 now, sv] :: rowI sv es :: A)) (hn : es.length ≤ 32) (vid : Int) (a : Ad) (port t : Int)
    (htm : ∀ e ∈ es, 0 ≤ e.tm ∧ e.tm ≤ 1099511627776) (hg : a.a.toNat % 2 ≠ 1) (hv1 : 1 ≤ vid) (hv2 : vid ≤ 4094) (hp1 : 0 ≤ port) (hp2 : port ≤ 7) (ht0 : 0 ≤ t) (ht1 : t ≤ 1099511627776) (hto : now ≤ t) :
    Calls Try.prog 20 #[.pointer (some ⟨T, 0, none⟩), .int .i64 vid, .agg a.vals.toArray, .int .i64 port, .int .i64 t] w fun e w' => e = .returned .nilIface ∧ ∃ sv', St B w0 w' (bk T 86 [.int .i64 age, .int .i64 t, sv'] :: rowI sv' (learnM es vid a port t age) :: A) := by
  have hff : ∀ (args : Array Value) (W : World), (callFunc 48 args).run Try.prog W = .ok (.enter 48 args) W := fun args W => by kernel_rfl
  have h1 := H.alloc4 [.pointer (some ⟨T, 0, none⟩)] [.int .i64 vid] a.vals [.int .i64 t] 24 3 30 3
  have H1 := Lib.hid h1
  have hb0 : w.heap.size < w.heap.size + 1 := by omega
  clear h1 H
  go_enter Try.func20, Try.ntmps20
  go_upto_region 1 with (fail)
  generalize World.alloc _ _ = W1 at *
  generalize w.heap.size = PT at *
  generalize PT + 1 + 1 + 1 = PN at *
  generalize PT + 1 + 1 = PA at *
  generalize PT + 1 = PV at *
  have hgf : decide (a.a.toNat % 2 = 1) = false := decide_eq_false hg
  have HG : Hid (∀ W, Calls Try.prog 46 #[.agg a.vals.toArray] W fun e w' => e = .returned (.bool false) ∧ Below W.heap.size W w') := Lib.hid (fun W => by
    have := group_any a W
    rw [hgf] at this
    exact this)
  have HPA := Lib.hid (H1.out.at 1 rfl)
  have c2 : W1.cell? ⟨PV, 0, none⟩ = some (.int .i64 vid) := (H1.out.at 2 rfl).box.cell 0
  have Htm := Lib.hid htm
  clear hgf hg htm hb0
  go_upto_region 5 with (first
    | ((with_reducible refine wpList_load_box (ty := 30) (b := ?b3) (ds := ?ds3) a.vals ?hx3 ?hB3 ?hu3 ?hd3 ?hi3 ?hk3)
       case hx3 => rfl
       case hB3 => exact HPA.out.box
       case hu3 => exact Try.underlying30
       case hd3 => rfl
       case hi3 => exact info30)
    | ((with_reducible refine (HG.out _).mono ?_)
       rintro e w2 ⟨rfl, hb2⟩
       have H2 := Lib.hid (H1.out.ext hb2)
       have hp2 : w2.cell? ⟨PV, 0, none⟩ = some (.int .i64 vid) := (H2.out.at 2 rfl).box.cell 0
       have hn2 : w2.cell? ⟨PN, 0, none⟩ = some (.int .i64 t) := (H2.out.at 0 rfl).box.cell 0
       have hpt2 : w2.cell? ⟨PT, 0, none⟩ = some (.pointer (some ⟨T, 0, none⟩)) := (H2.out.at 3 rfl).box.cell 0
       have hw2 : w2.cell? ⟨T, 1, none⟩ = some (.int .i64 now) := (H2.out.at 4 rfl).box.cell 1
       have l1 := (H2.out.at 0 rfl).lt
       have l2 := (H2.out.at 3 rfl).lt
       have l3 := (H2.out.at 4 rfl).lt
       clear c2)
    )
  refine wp_region_ext (by kernel_rfl) (by kernel_rfl) ?_
  repeat (go_big_quiet_step (fail))
  refine wpQuiet_nil ?_
  rintro w3 ⟨⟨_, hb3⟩, rfl⟩
  try simp only [] at *
  have H3 := Lib.hid (H2.out.ext hb3)
  clear hp2 hn2 hpt2 hw2 l1 l2 l3 hb3 hb2 H2 H1 HPA HG
  have hn3 : w3.cell? ⟨PN, 0, none⟩ = some (.int .i64 t) := (H3.out.at 0 rfl).box.cell 0
  have hpt3 : w3.cell? ⟨PT, 0, none⟩ = some (.pointer (some ⟨T, 0, none⟩)) := (H3.out.at 3 rfl).box.cell 0
  have hw3 : w3.cell? ⟨T, 1, none⟩ = some (.int .i64 now) := (H3.out.at 4 rfl).box.cell 1
  have hz3 : w3.frozen? ⟨T, 1, none⟩ = false := (H3.out.at 4 rfl).box.frozen 1
  go_upto_region 8 with (fail)
  have h4 := (H3.out.pull 4 rfl).set 1 (.int .i64 t) (by simp)
  clear hn3 hpt3 hw3 hz3 H3
  generalize World.setCell _ _ _ = w4 at *
  have hT : Blk w4 T 86 [.int .i64 age, .int .i64 t, sv] := h4.head
  have hPN : Blk w4 PN 3 [.int .i64 t] := h4.at 1 rfl
  have hPA : Blk w4 PA 30 a.vals := h4.at 2 rfl
  have hPV : Blk w4 PV 3 [.int .i64 vid] := h4.at 3 rfl
  have hPT : Blk w4 PT 24 [.pointer (some ⟨T, 0, none⟩)] := h4.at 4 rfl
  have hO : w4.ownsRow 0 88 9 sv es.length (erows es) := h4.item (k := rowI sv es) (List.mem_of_getElem? (i := 5) rfl)
  have nT : T ∉ sv.ownBlock.toList := h4.dis 0 5 (by decide) rfl rfl _ (List.mem_singleton.2 rfl)
  have nN : PN ∉ sv.ownBlock.toList := h4.dis 1 5 (by decide) rfl rfl _ (List.mem_singleton.2 rfl)
  have nA : PA ∉ sv.ownBlock.toList := h4.dis 2 5 (by decide) rfl rfl _ (List.mem_singleton.2 rfl)
  have nV : PV ∉ sv.ownBlock.toList := h4.dis 3 5 (by decide) rfl rfl _ (List.mem_singleton.2 rfl)
  have nP : PT ∉ sv.ownBlock.toList := h4.dis 4 5 (by decide) rfl rfl _ (List.mem_singleton.2 rfl)
  have cP : ∀ X, Fr sv.ownBlock.toList w4 X → X.cell? ⟨PT, 0, none⟩ = some (.pointer (some ⟨T, 0, none⟩)) := fun X hX => (hX.blk hPT nP).box.cell 0
  have cT : ∀ X, Fr sv.ownBlock.toList w4 X → X.cell? ⟨T, 2, none⟩ = some sv := fun X hX => (hX.blk hT nT).box.cell 2
  have cz : ∀ X, Fr sv.ownBlock.toList w4 X → X.frozen? ⟨T, 2, none⟩ = false := fun X hX => (hX.blk hT nT).box.frozen 2
  have hdr : Fr sv.ownBlock.toList w4 w4.drew := ⟨rfl, rfl, rfl, Nat.le_refl _, fun _ _ _ => rfl⟩
  have hD : Calls Try.prog 47 #[sv, .func (.func 48) #[] #[.pointer (some ⟨PN, 0, none⟩), .pointer (some ⟨PT, 0, none⟩), .pointer (some ⟨PV, 0, none⟩), .pointer (some ⟨PA, 0, none⟩)]] w4.drew (RowTo w4.drew sv (keptM es vid a t age)) :=
    delf_any es (fun e => goneM vid a t age e) sv _ _ hn w4.drew hO hff (fun e he X hX => by
      have hX' : Fr sv.ownBlock.toList w4 X := ⟨hX.os, hX.tape, hX.output, hX.size, hX.block⟩
      exact learn1_any e vid a t age t sv T PN PT PV PA X (Htm.out e he).1 (Htm.out e he).2 ht0 ht1 (hX'.blk hT nT) (hX'.blk hPN nN) (hX'.blk hPT nP) (hX'.blk hPV nV) (hX'.blk hPA nA))
  have HD := Lib.hid hD
  have H4 := Lib.hid h4.drew
  have Hn := Lib.hid hn
  clear hD hT hPN hPA hPV hPT hO nT nN nA nV nP hn h4 hff Htm
  refine wp_region_last (fun X => Fr sv.ownBlock.toList w4 X) 9 (by kernel_rfl) hdr (fun hHeld => ?_)
  refine wpAnyG_take 0 (oi := ?o6) ?v6 ?hi6 (by kernel_rfl) (by kernel_rfl) (by decide) (by kernel_rfl) (by kernel_rfl) ?hq6 ?hg6 ?hy6 (by assumption) ?hk6
  case hi6 => (simp only [List.getElem?_toArray, List.getElem?_cons_succ, List.getElem?_cons_zero]; rfl)
  case hq6 => exact fun _ _ _ h => h
  case hg6 => rfl
  case hy6 => (intro X hX; go_simp; try with_reducible rfl)
  try simp only [Act.put, List.setIfInBounds_toArray, List.set_cons_zero, List.set_cons_succ]
  refine wpAnyG_take 1 (oi := ?o7) ?v7 ?hi7 (by kernel_rfl) (by kernel_rfl) (by decide) (by kernel_rfl) (by kernel_rfl) ?hq7 ?hg7 ?hy7 (by assumption) ?hk7
  case hi7 => (simp only [List.getElem?_toArray, List.getElem?_cons_succ, List.getElem?_cons_zero]; rfl)
  case hq7 => exact fun _ _ _ h => h
  case hg7 => rfl
  case hy7 => (intro X hX; go_simp; try with_reducible rfl)
  try simp only [Act.put, List.setIfInBounds_toArray, List.set_cons_zero, List.set_cons_succ]
  refine wpAnyG_take 2 (oi := ?o8) ?v8 ?hi8 (by kernel_rfl) (by kernel_rfl) (by decide) (by kernel_rfl) (by kernel_rfl) ?hq8 ?hg8 ?hy8 (by assumption) ?hk8
  case hi8 => (simp only [List.getElem?_toArray, List.getElem?_cons_succ, List.getElem?_cons_zero]; rfl)
  case hq8 => exact fun _ _ _ h => h
  case hg8 => rfl
  case hy8 => (intro X hX; go_simp; try with_reducible rfl)
  try simp only [Act.put, List.setIfInBounds_toArray, List.set_cons_zero, List.set_cons_succ]
  refine wpAnyG_take 3 (oi := ?o9) ?v9 ?hi9 (by kernel_rfl) (by kernel_rfl) (by decide) (by kernel_rfl) (by kernel_rfl) ?hq9 ?hg9 ?hy9 (by assumption) ?hk9
  case hi9 => (simp only [List.getElem?_toArray, List.getElem?_cons_succ, List.getElem?_cons_zero]; rfl)
  case hq9 => exact fun _ _ _ h => h
  case hg9 => rfl
  case hy9 => (intro X hX; go_simp; try with_reducible rfl)
  try simp only [Act.put, List.setIfInBounds_toArray, List.set_cons_zero, List.set_cons_succ]
  refine wpAnyG_take 4 (oi := ?o10) ?v10 ?hi10 (by kernel_rfl) (by kernel_rfl) (by decide) (by kernel_rfl) (by kernel_rfl) ?hq10 ?hg10 ?hy10 (by assumption) ?hk10
  case hi10 => (simp only [List.getElem?_toArray, List.getElem?_cons_succ, List.getElem?_cons_zero]; rfl)
  case hq10 => exact fun _ _ _ h => h
  case hg10 => rfl
  case hy10 => (intro X hX; go_simp; try with_reducible rfl)
  try simp only [Act.put, List.setIfInBounds_toArray, List.set_cons_zero, List.set_cons_succ]
  refine wpAnyG_take 5 (oi := ?o11) ?v11 ?hi11 (by kernel_rfl) (by kernel_rfl) (by decide) (by kernel_rfl) (by kernel_rfl) ?hq11 ?hg11 ?hy11 (by assumption) ?hk11
  case hi11 => (simp only [List.getElem?_toArray, List.getElem?_cons_succ, List.getElem?_cons_zero]; rfl)
  case hq11 => exact fun _ _ _ h => h
  case hg11 => rfl
  case hy11 => (intro X hX; go_simp; try with_reducible rfl)
  try simp only [Act.put, List.setIfInBounds_toArray, List.set_cons_zero, List.set_cons_succ]
  refine wpAnyG_one 6 (o := ?o12) (by kernel_rfl) ?hi12 ?hg12 ?hk12
  case hi12 => (simp only [List.getElem?_toArray, List.getElem?_cons_succ, List.getElem?_cons_zero]; rfl)
  case hg12 => rfl
  intro K hK
  go_simp
  refine HD.out.mono ?_
  rintro e w6 ⟨sv6, rfl, hO6, hob6, hf6⟩
  obtain ⟨A6, c6, rfl⟩ := own_shape hO6
  refine hK.out _ _ (fun _ => hHeld.trans hf6) (fun hH => ?_)
  have hHeld := hH (by decide)
  clear hK K hH
  try simp only [Act.put, List.setIfInBounds_toArray, List.set_cons_zero, List.set_cons_succ]
  refine wpAnyG_take 7 (oi := ?o14) ?v14 ?hi14 (by kernel_rfl) (by kernel_rfl) (by decide) (by kernel_rfl) (by kernel_rfl) ?hq14 ?hg14 ?hy14 (by assumption) ?hk14
  case hi14 => (simp only [List.getElem?_toArray, List.getElem?_cons_succ, List.getElem?_cons_zero]; rfl)
  case hq14 => exact fun _ _ _ h => h
  case hg14 => rfl
  case hy14 => (intro X hX; go_simp; try with_reducible rfl)
  try simp only [Act.put, List.setIfInBounds_toArray, List.set_cons_zero, List.set_cons_succ]
  refine wpAnyG_take 8 (oi := ?o15) ?v15 ?hi15 (by kernel_rfl) (by kernel_rfl) (by decide) (by kernel_rfl) (by kernel_rfl) ?hq15 ?hg15 ?hy15 (by assumption) ?hk15
  case hi15 => (simp only [List.getElem?_toArray, List.getElem?_cons_succ, List.getElem?_cons_zero]; rfl)
  case hq15 => exact fun _ _ _ h => h
  case hg15 => rfl
  case hy15 => (intro X hX; go_simp; try with_reducible rfl)
  try simp only [Act.put, List.setIfInBounds_toArray, List.set_cons_zero, List.set_cons_succ]
  have d6 := cT w6 hHeld
  have z6 := cz w6 hHeld
  refine wpAnyG_one 9 (o := ?o16) (by kernel_rfl) ?hi16 ?hg16 ?hk16
  case hi16 => (simp only [List.getElem?_toArray, List.getElem?_cons_succ, List.getElem?_cons_zero]; rfl)
  case hg16 => rfl
  intro K hK
  go_simp
  refine hK.out _ _ (fun h => absurd rfl h) (fun _ => ?_)
  refine wpAnyG_done (by kernel_rfl) ?_ _
  have h7 := ((St.row (H4.out.pull 5 rfl) hO6 hob6 hf6).pull 1 rfl).set 2 (.slice A6 (keptM es vid a t age).length c6) (by simp)
  have H7 : Hid (St B w0 (w6.setCell ⟨T, 2, none⟩ (.slice A6 (keptM es vid a t age).length c6)) (bk T 86 [.int .i64 age, .int .i64 t, .slice A6 (keptM es vid a t age).length c6] :: rowI (.slice A6 (keptM es vid a t age).length c6) (keptM es vid a t age) :: bk PN 3 [.int .i64 t] :: bk PA 30 a.vals :: bk PV 3 [.int .i64 vid] :: bk PT 24 [.pointer (some ⟨T, 0, none⟩)] :: A)) := Lib.hid h7
  clear h7 hK K d6 z6 hO6 hob6 hf6 hHeld H4 HD hdr cz cT cP
  generalize World.setCell _ _ _ = w7 at *
  have hkl : (keptM es vid a t age).length ≤ 32 := Nat.le_trans (kept_sub ..).length_le Hn.out
  generalize hke : keptM es vid a t age = ks at *
  have Hke := Lib.hid hke
  clear hke Hn
  have d7 : w7.cell? ⟨PT, 0, none⟩ = some (.pointer (some ⟨T, 0, none⟩)) := (H7.out.at 5 rfl).box.cell 0
  have e7 : w7.cell? ⟨T, 2, none⟩ = some (.slice A6 ks.length c6) := (H7.out.at 0 rfl).box.cell 2
  have hj : ∀ kr, roomM ks = kr → learnM es vid a port t age = kr ++ [⟨vid, a, port, t⟩] := fun kr h => by rw [← h, ← Hke.out]; rfl
  have Hj := Lib.hid hj
  clear hj Hke
  go_upto_if 65 with (fail)
  go_cut [] (fun wx => LrnCut B w0 T PN PA PV PT age t vid a A (learnM es vid a port t age) ⟨vid, a, port, t⟩ wx)
  case first =>
    by_cases hfull : ks.length = 32
    · skip
      have hfb : ((ks.length : Int) == 32) = true := by rw [hfull]; rfl
      have Hfull := Lib.hid hfull
      have Hks := Lib.hid hkl
      clear hfull hkl
      go_upto_region 10 with (fail)
      have hT : Blk w7 T 86 [.int .i64 age, .int .i64 t, .slice A6 ks.length c6] := H7.out.head
      have hPT : Blk w7 PT 24 [.pointer (some ⟨T, 0, none⟩)] := H7.out.at 5 rfl
      have nT : T ∉ (Value.slice A6 ks.length c6).ownBlock.toList := H7.out.dis 0 1 (by decide) rfl rfl _ (List.mem_singleton.2 rfl)
      have nP : PT ∉ (Value.slice A6 ks.length c6).ownBlock.toList := fun h => H7.out.dis 1 5 (by decide) rfl rfl PT h (List.mem_singleton.2 rfl)
      have hO : w7.ownsRow 0 88 9 (.slice A6 ks.length c6) ks.length (erows ks) := H7.out.item (k := rowI (.slice A6 ks.length c6) ks) (List.mem_of_getElem? (i := 1) rfl)
      have hD := delete_any ks (.slice A6 ks.length c6) Hfull.out w7.drew hO
      have hrl : ks.tail.length ≤ 31 := by rw [List.length_tail, Hfull.out]; decide
      have Hr := Lib.hid (Hj.out ks.tail (by unfold roomM; rw [if_pos Hfull.out]))
      generalize ks.tail = kr at hD hrl Hr
      have HD := Lib.hid hD
      clear hD
      have hdr : Fr (Value.slice A6 ks.length c6).ownBlock.toList w7 w7.drew := ⟨rfl, rfl, rfl, Nat.le_refl _, fun _ _ _ => rfl⟩
      generalize hgs : (Value.slice A6 ks.length c6).ownBlock.toList = gs at *
      have Hgs := Lib.hid hgs
      have cP : ∀ X, Fr gs w7 X → X.cell? ⟨PT, 0, none⟩ = some (.pointer (some ⟨T, 0, none⟩)) := fun X hX => (hX.blk hPT nP).box.cell 0
      have cT : ∀ X, Fr gs w7 X → X.cell? ⟨T, 2, none⟩ = some (.slice A6 ks.length c6) := fun X hX => (hX.blk hT nT).box.cell 2
      have cz : ∀ X, Fr gs w7 X → X.frozen? ⟨T, 2, none⟩ = false := fun X hX => (hX.blk hT nT).box.frozen 2
      clear hT hPT nT nP hO d7 e7 hgs
      refine wp_region_last (fun X => Fr gs w7 X) 8 (by kernel_rfl) hdr (fun hHeld => ?_)
      refine wpAnyG_take 0 (oi := ?o18) ?v18 ?hi18 (by kernel_rfl) (by kernel_rfl) (by decide) (by kernel_rfl) (by kernel_rfl) ?hq18 ?hg18 ?hy18 (by assumption) ?hk18
      case hi18 => (simp only [List.getElem?_toArray, List.getElem?_cons_succ, List.getElem?_cons_zero]; rfl)
      case hq18 => exact fun _ _ _ h => h
      case hg18 => rfl
      case hy18 => (intro X hX; go_simp; try with_reducible rfl)
      try simp only [Act.put, List.setIfInBounds_toArray, List.set_cons_zero, List.set_cons_succ]
      refine wpAnyG_take 1 (oi := ?o19) ?v19 ?hi19 (by kernel_rfl) (by kernel_rfl) (by decide) (by kernel_rfl) (by kernel_rfl) ?hq19 ?hg19 ?hy19 (by assumption) ?hk19
      case hi19 => (simp only [List.getElem?_toArray, List.getElem?_cons_succ, List.getElem?_cons_zero]; rfl)
      case hq19 => exact fun _ _ _ h => h
      case hg19 => rfl
      case hy19 => (intro X hX; go_simp; try with_reducible rfl)
      try simp only [Act.put, List.setIfInBounds_toArray, List.set_cons_zero, List.set_cons_succ]
      refine wpAnyG_take 2 (oi := ?o20) ?v20 ?hi20 (by kernel_rfl) (by kernel_rfl) (by decide) (by kernel_rfl) (by kernel_rfl) ?hq20 ?hg20 ?hy20 (by assumption) ?hk20
      case hi20 => (simp only [List.getElem?_toArray, List.getElem?_cons_succ, List.getElem?_cons_zero]; rfl)
      case hq20 => exact fun _ _ _ h => h
      case hg20 => rfl
      case hy20 => (intro X hX; go_simp; try with_reducible rfl)
      try simp only [Act.put, List.setIfInBounds_toArray, List.set_cons_zero, List.set_cons_succ]
      refine wpAnyG_take 3 (oi := ?o21) ?v21 ?hi21 (by kernel_rfl) (by kernel_rfl) (by decide) (by kernel_rfl) (by kernel_rfl) ?hq21 ?hg21 ?hy21 (by assumption) ?hk21
      case hi21 => (simp only [List.getElem?_toArray, List.getElem?_cons_succ, List.getElem?_cons_zero]; rfl)
      case hq21 => exact fun _ _ _ h => h
      case hg21 => rfl
      case hy21 => (intro X hX; go_simp; try with_reducible rfl)
      try simp only [Act.put, List.setIfInBounds_toArray, List.set_cons_zero, List.set_cons_succ]
      refine wpAnyG_take 4 (oi := ?o22) ?v22 ?hi22 (by kernel_rfl) (by kernel_rfl) (by decide) (by kernel_rfl) (by kernel_rfl) ?hq22 ?hg22 ?hy22 (by assumption) ?hk22
      case hi22 => (simp only [List.getElem?_toArray, List.getElem?_cons_succ, List.getElem?_cons_zero]; rfl)
      case hq22 => exact fun _ _ _ h => h
      case hg22 => rfl
      case hy22 => (intro X hX; go_simp; try with_reducible rfl)
      try simp only [Act.put, List.setIfInBounds_toArray, List.set_cons_zero, List.set_cons_succ]
      refine wpAnyG_one 5 (o := ?o23) (by kernel_rfl) ?hi23 ?hg23 ?hk23
      case hi23 => (simp only [List.getElem?_toArray, List.getElem?_cons_succ, List.getElem?_cons_zero]; rfl)
      case hg23 => rfl
      intro K hK
      go_simp
      refine HD.out.mono ?_
      rintro e w6 ⟨sv6, rfl, hO6, hob6, hf6⟩
      obtain ⟨A8, c8, rfl⟩ := own_shape hO6
      refine hK.out _ _ (fun _ => hHeld.trans (by rw [← Hgs.out]; exact hf6)) (fun hH => ?_)
      have hHeld := hH (by decide)
      clear hK K hH
      try simp only [Act.put, List.setIfInBounds_toArray, List.set_cons_zero, List.set_cons_succ]
      refine wpAnyG_take 6 (oi := ?o25) ?v25 ?hi25 (by kernel_rfl) (by kernel_rfl) (by decide) (by kernel_rfl) (by kernel_rfl) ?hq25 ?hg25 ?hy25 (by assumption) ?hk25
      case hi25 => (simp only [List.getElem?_toArray, List.getElem?_cons_succ, List.getElem?_cons_zero]; rfl)
      case hq25 => exact fun _ _ _ h => h
      case hg25 => rfl
      case hy25 => (intro X hX; go_simp; try with_reducible rfl)
      try simp only [Act.put, List.setIfInBounds_toArray, List.set_cons_zero, List.set_cons_succ]
      refine wpAnyG_take 7 (oi := ?o26) ?v26 ?hi26 (by kernel_rfl) (by kernel_rfl) (by decide) (by kernel_rfl) (by kernel_rfl) ?hq26 ?hg26 ?hy26 (by assumption) ?hk26
      case hi26 => (simp only [List.getElem?_toArray, List.getElem?_cons_succ, List.getElem?_cons_zero]; rfl)
      case hq26 => exact fun _ _ _ h => h
      case hg26 => rfl
      case hy26 => (intro X hX; go_simp; try with_reducible rfl)
      try simp only [Act.put, List.setIfInBounds_toArray, List.set_cons_zero, List.set_cons_succ]
      have d6 := cT w6 hHeld
      have z6 := cz w6 hHeld
      refine wpAnyG_one 8 (o := ?o27) (by kernel_rfl) ?hi27 ?hg27 ?hk27
      case hi27 => (simp only [List.getElem?_toArray, List.getElem?_cons_succ, List.getElem?_cons_zero]; rfl)
      case hg27 => rfl
      intro K hK
      go_simp
      refine hK.out _ _ (fun h => absurd rfl h) (fun _ => ?_)
      refine wpAnyG_done (by kernel_rfl) ?_ _
      have h7 := ((St.row (H7.out.drew.pull 1 rfl) hO6 hob6 hf6).pull 1 rfl).set 2 (.slice A8 kr.length c8) (by simp)
      have H8 : Hid (St B w0 (w6.setCell ⟨T, 2, none⟩ (.slice A8 kr.length c8)) (bk T 86 [.int .i64 age, .int .i64 t, .slice A8 kr.length c8] :: rowI (.slice A8 kr.length c8) kr :: bk PN 3 [.int .i64 t] :: bk PA 30 a.vals :: bk PV 3 [.int .i64 vid] :: bk PT 24 [.pointer (some ⟨T, 0, none⟩)] :: A)) := Lib.hid h7
      clear h7 hK K d6 z6 hO6 hob6 hf6 hHeld H7 HD hdr cz cT cP hfb Hgs
      generalize World.setCell _ _ _ = w8 at *
      clear Hj Hfull Hks
      go_wp2_with fail
      go_meet
      exact ⟨kr, A8, c8, hrl, Hr.out, H8.out⟩
    · have hfb : ((ks.length : Int) == 32) = false := by rw [beq_eq_false_iff_ne]; omega
      have Hr := Lib.hid (Hj.out ks (by unfold roomM; rw [if_neg hfull]))
      have hrl : ks.length ≤ 31 := by omega
      go_wp2_with fail
      go_meet
      exact ⟨ks, A6, c6, hrl, Hr.out, H7.out⟩
  case rest =>
    obtain ⟨kr, A8, c8, hrl, hr, h8⟩ := hcut
    have Hr := Lib.hid hr
    have H8 := Lib.hid h8
    clear hr h8 H7 Hj d7 e7
    generalize wc = w8 at *
    go_upto_region 11 with (fail)
    have hT : Blk w8 T 86 [.int .i64 age, .int .i64 t, .slice A8 kr.length c8] := H8.out.head
    have hPT : Blk w8 PT 24 [.pointer (some ⟨T, 0, none⟩)] := H8.out.at 5 rfl
    have hPV : Blk w8 PV 3 [.int .i64 vid] := H8.out.at 4 rfl
    have hPA : Blk w8 PA 30 a.vals := H8.out.at 3 rfl
    have hPN : Blk w8 PN 3 [.int .i64 t] := H8.out.at 2 rfl
    have nT : T ∉ (Value.slice A8 kr.length c8).ownBlock.toList := H8.out.dis 0 1 (by decide) rfl rfl _ (List.mem_singleton.2 rfl)
    have nP : PT ∉ (Value.slice A8 kr.length c8).ownBlock.toList := fun h => H8.out.dis 1 5 (by decide) rfl rfl PT h (List.mem_singleton.2 rfl)
    have nV : PV ∉ (Value.slice A8 kr.length c8).ownBlock.toList := fun h => H8.out.dis 1 4 (by decide) rfl rfl PV h (List.mem_singleton.2 rfl)
    have nA : PA ∉ (Value.slice A8 kr.length c8).ownBlock.toList := fun h => H8.out.dis 1 3 (by decide) rfl rfl PA h (List.mem_singleton.2 rfl)
    have nN : PN ∉ (Value.slice A8 kr.length c8).ownBlock.toList := fun h => H8.out.dis 1 2 (by decide) rfl rfl PN h (List.mem_singleton.2 rfl)
    have hO : w8.ownsRow 0 88 9 (.slice A8 kr.length c8) kr.length (erows kr) := H8.out.item (k := rowI (.slice A8 kr.length c8) kr) (List.mem_of_getElem? (i := 1) rfl)
    have hdr : Fr (Value.slice A8 kr.length c8).ownBlock.toList w8 w8.drew := ⟨rfl, rfl, rfl, Nat.le_refl _, fun _ _ _ => rfl⟩
    have HO := Lib.hid hO
    generalize hgs : (Value.slice A8 kr.length c8).ownBlock.toList = gs at *
    have Hgs := Lib.hid hgs
    have cP : ∀ X, Fr gs w8 X → X.cell? ⟨PT, 0, none⟩ = some (.pointer (some ⟨T, 0, none⟩)) := fun X hX => (hX.blk hPT nP).box.cell 0
    have cV : ∀ X, Fr gs w8 X → X.cell? ⟨PV, 0, none⟩ = some (.int .i64 vid) := fun X hX => (hX.blk hPV nV).box.cell 0
    have cN : ∀ X, Fr gs w8 X → X.cell? ⟨PN, 0, none⟩ = some (.int .i64 t) := fun X hX => (hX.blk hPN nN).box.cell 0
    have cA : Hid (∀ X, Fr gs w8 X → X.rangeAt PA 0 a.vals) := Lib.hid fun X hX => (hX.blk hPA nA).box.range
    have cT : ∀ X, Fr gs w8 X → X.cell? ⟨T, 2, none⟩ = some (.slice A8 kr.length c8) := fun X hX => (hX.blk hT nT).box.cell 2
    have cz : ∀ X, Fr gs w8 X → X.frozen? ⟨T, 2, none⟩ = false := fun X hX => (hX.blk hT nT).box.frozen 2
    clear hT hPT hPV hPA hPN nT nP nV nA nN hO hgs
    refine wp_region_last (fun X => Fr gs w8 X) 14 (by kernel_rfl) hdr (fun hHeld => ?_)
    refine wpAnyG_take 0 (oi := ?o29) ?v29 ?hi29 (by kernel_rfl) (by kernel_rfl) (by decide) (by kernel_rfl) (by kernel_rfl) ?hq29 ?hg29 ?hy29 (by assumption) ?hk29
    case hi29 => (simp only [List.getElem?_toArray, List.getElem?_cons_succ, List.getElem?_cons_zero]; rfl)
    case hq29 => exact fun _ _ _ h => h
    case hg29 => rfl
    case hy29 => (intro X hX; go_simp; try with_reducible rfl)
    try simp only [Act.put, List.setIfInBounds_toArray, List.set_cons_zero, List.set_cons_succ]
    refine wpAnyG_take 1 (oi := ?o30) ?v30 ?hi30 (by kernel_rfl) (by kernel_rfl) (by decide) (by kernel_rfl) (by kernel_rfl) ?hq30 ?hg30 ?hy30 (by assumption) ?hk30
    case hi30 => (simp only [List.getElem?_toArray, List.getElem?_cons_succ, List.getElem?_cons_zero]; rfl)
    case hq30 => exact fun _ _ _ h => h
    case hg30 => rfl
    case hy30 => (intro X hX; go_simp; try with_reducible rfl)
    try simp only [Act.put, List.setIfInBounds_toArray, List.set_cons_zero, List.set_cons_succ]
    refine wpAnyG_take 2 (oi := ?o31) ?v31 ?hi31 (by kernel_rfl) (by kernel_rfl) (by decide) (by kernel_rfl) (by kernel_rfl) ?hq31 ?hg31 ?hy31 (by assumption) ?hk31
    case hi31 => (simp only [List.getElem?_toArray, List.getElem?_cons_succ, List.getElem?_cons_zero]; rfl)
    case hq31 => exact fun _ _ _ h => h
    case hg31 => rfl
    case hy31 => (intro X hX; go_simp; try with_reducible rfl)
    try simp only [Act.put, List.setIfInBounds_toArray, List.set_cons_zero, List.set_cons_succ]
    refine wpAnyG_take 3 (oi := ?o32) ?v32 ?hi32 (by kernel_rfl) (by kernel_rfl) (by decide) (by kernel_rfl) (by kernel_rfl) ?hq32 ?hg32 ?hy32 (by assumption) ?hk32
    case hi32 => (simp only [List.getElem?_toArray, List.getElem?_cons_succ, List.getElem?_cons_zero]; rfl)
    case hq32 => exact fun _ _ _ h => h
    case hg32 => rfl
    case hy32 => (intro X hX; go_simp; try with_reducible rfl)
    try simp only [Act.put, List.setIfInBounds_toArray, List.set_cons_zero, List.set_cons_succ]
    refine wpAnyG_take 4 (oi := ?o33) ?v33 ?hi33 (by kernel_rfl) (by kernel_rfl) (by decide) (by kernel_rfl) (by kernel_rfl) ?hq33 ?hg33 ?hy33 (by assumption) ?hk33
    case hi33 => (simp only [List.getElem?_toArray, List.getElem?_cons_succ, List.getElem?_cons_zero]; rfl)
    case hq33 => exact fun _ _ _ h => h
    case hg33 => rfl
    case hy33 => (intro X hX; go_simp; try with_reducible rfl)
    try simp only [Act.put, List.setIfInBounds_toArray, List.set_cons_zero, List.set_cons_succ]
    refine wpAnyG_take 5 (oi := ?o34) ?v34 ?hi34 (by kernel_rfl) (by kernel_rfl) (by decide) (by kernel_rfl) (by kernel_rfl) ?hq34 ?hg34 ?hy34 (by assumption) ?hk34
    case hi34 => (simp only [List.getElem?_toArray, List.getElem?_cons_succ, List.getElem?_cons_zero]; rfl)
    case hq34 => exact fun _ _ _ h => h
    case hg34 => rfl
    case hy34 => (intro X hX; go_simp; try with_reducible rfl)
    try simp only [Act.put, List.setIfInBounds_toArray, List.set_cons_zero, List.set_cons_succ]
    refine wpAnyG_take 6 (oi := ?o35) (.agg (a.vals).toArray) ?hi35 (by kernel_rfl) (by kernel_rfl) (by decide) (by kernel_rfl) (by kernel_rfl) ?hq35 ?hg35 ?hy35 (by assumption) ?hk35
    case hi35 => (simp only [List.getElem?_toArray, List.getElem?_cons_succ, List.getElem?_cons_zero]; rfl)
    case hq35 => exact fun _ _ _ h => h
    case hg35 => rfl
    case hy35 => exact fun X hX => exec_load_rng (ty := 30) (a.vals) rfl (cA.out X hX) Try.underlying30 rfl info30
    try simp only [Act.put, List.setIfInBounds_toArray, List.set_cons_zero, List.set_cons_succ]
    refine wpAnyG_take 7 (oi := ?o37) ?v37 ?hi37 (by kernel_rfl) (by kernel_rfl) (by decide) (by kernel_rfl) (by kernel_rfl) ?hq37 ?hg37 ?hy37 (by assumption) ?hk37
    case hi37 => (simp only [List.getElem?_toArray, List.getElem?_cons_succ, List.getElem?_cons_zero]; rfl)
    case hq37 => exact fun _ _ _ h => h
    case hg37 => rfl
    case hy37 => (intro X hX; go_simp; try with_reducible rfl)
    try simp only [Act.put, List.setIfInBounds_toArray, List.set_cons_zero, List.set_cons_succ]
    refine wpAnyG_take 8 (oi := ?o38) ?v38 ?hi38 (by kernel_rfl) (by kernel_rfl) (by decide) (by kernel_rfl) (by kernel_rfl) ?hq38 ?hg38 ?hy38 (by assumption) ?hk38
    case hi38 => (simp only [List.getElem?_toArray, List.getElem?_cons_succ, List.getElem?_cons_zero]; rfl)
    case hq38 => exact fun _ _ _ h => h
    case hg38 => rfl
    case hy38 => (intro X hX; go_simp; try with_reducible rfl)
    try simp only [Act.put, List.setIfInBounds_toArray, List.set_cons_zero, List.set_cons_succ]
    refine wpAnyG_take 9 (oi := ?o39) ?v39 ?hi39 (by kernel_rfl) (by kernel_rfl) (by decide) (by kernel_rfl) (by kernel_rfl) ?hq39 ?hg39 ?hy39 (by assumption) ?hk39
    case hi39 => (simp only [List.getElem?_toArray, List.getElem?_cons_succ, List.getElem?_cons_zero]; rfl)
    case hq39 => exact fun _ _ _ h => h
    case hg39 => rfl
    case hy39 => (intro X hX; simp only [Ad.vals]; go_simp; try with_reducible rfl)
    try simp only [Act.put, List.setIfInBounds_toArray, List.set_cons_zero, List.set_cons_succ]
    refine wpAnyG_one 10 (o := ?o40) (by kernel_rfl) ?hi40 ?hg40 ?hk40
    case hi40 => (simp only [List.getElem?_toArray, List.getElem?_cons_succ, List.getElem?_cons_zero]; rfl)
    case hg40 => rfl
    intro K hK
    go_simp
    refine hK.out _ _ (fun _ => hHeld.ext ((Below.refl _ _).alloc (Nat.le_refl _) _)) (fun hH => ?_)
    have hHeld := hH (by decide)
    clear hK K hH
    try simp only [Act.put, List.setIfInBounds_toArray, List.set_cons_zero, List.set_cons_succ]
    refine wpAnyG_one 11 (o := ?o41) (by kernel_rfl) ?hi41 ?hg41 ?hk41
    case hi41 => (simp only [List.getElem?_toArray, List.getElem?_cons_succ, List.getElem?_cons_zero]; rfl)
    case hg41 => rfl
    intro K hK
    obtain ⟨ht0, i0, z0, hi0, hz0, hsz0, hby0, hzs0, hpos0⟩ := elemEnt
    refine wp_append_lies _ _ _ _ (by rfl) 0 88 i0 z0 9 32 ht0 hi0 hz0 hsz0 hby0 hzs0 hpos0 (.slice A8 kr.length c8) kr.length (erows kr) (by rfl) (own_below HO.out (((Below.refl _ _).drew).alloc (Nat.le_refl _) _) (Nat.le_refl _)) ⟨w8.heap.size, 0, none⟩ 1 1 (Ent.vals ⟨vid, a, port, t⟩) (by rfl) rfl (World.news_of_block (heap_alloc_new w8.drew _)) (Ent.one _) (by omega) (by unfold maxLen; omega) (by omega) (Nat.zero_le _) _ rfl ?_
    intro g cap' w11 hown11 hgrow hat hlt
    have hf11 : Fr gs (w8.drew.alloc (.cells (Ent.vals ⟨vid, a, port, t⟩).toArray 88)) w11 := ⟨hgrow.os, hgrow.tape, hgrow.output, hgrow.size, fun q hq hn => hgrow.block q hq (fun e => hn (by rw [← Hgs.out, ← e]; simp))⟩
    refine hK.out _ _ (fun _ => hHeld.trans hf11) (fun hH => ?_)
    have hHeld := hH (by decide)
    clear hK K hH
    try simp only [Act.put, List.setIfInBounds_toArray, List.set_cons_zero, List.set_cons_succ]
    refine wpAnyG_take 12 (oi := ?o43) ?v43 ?hi43 (by kernel_rfl) (by kernel_rfl) (by decide) (by kernel_rfl) (by kernel_rfl) ?hq43 ?hg43 ?hy43 (by assumption) ?hk43
    case hi43 => (simp only [List.getElem?_toArray, List.getElem?_cons_succ, List.getElem?_cons_zero]; rfl)
    case hq43 => exact fun _ _ _ h => h
    case hg43 => rfl
    case hy43 => (intro X hX; go_simp; try with_reducible rfl)
    try simp only [Act.put, List.setIfInBounds_toArray, List.set_cons_zero, List.set_cons_succ]
    refine wpAnyG_take 13 (oi := ?o44) ?v44 ?hi44 (by kernel_rfl) (by kernel_rfl) (by decide) (by kernel_rfl) (by kernel_rfl) ?hq44 ?hg44 ?hy44 (by assumption) ?hk44
    case hi44 => (simp only [List.getElem?_toArray, List.getElem?_cons_succ, List.getElem?_cons_zero]; rfl)
    case hq44 => exact fun _ _ _ h => h
    case hg44 => rfl
    case hy44 => (intro X hX; go_simp; try with_reducible rfl)
    try simp only [Act.put, List.setIfInBounds_toArray, List.set_cons_zero, List.set_cons_succ]
    have d6 := cT w11 hHeld
    have z6 := cz w11 hHeld
    refine wpAnyG_one 14 (o := ?o45) (by kernel_rfl) ?hi45 ?hg45 ?hk45
    case hi45 => (simp only [List.getElem?_toArray, List.getElem?_cons_succ, List.getElem?_cons_zero]; rfl)
    case hg45 => rfl
    intro K hK
    go_simp
    refine hK.out _ _ (fun h => absurd rfl h) (fun _ => ?_)
    refine wpAnyG_done (by kernel_rfl) ?_ _
    have hl : (kr ++ [(⟨vid, a, port, t⟩ : Ent)]).length = kr.length + 1 := by simp
    have hrow : w11.ownsRow 0 88 9 (.slice (some ⟨g, 0, none⟩) (kr.length + 1) cap') (kr ++ [(⟨vid, a, port, t⟩ : Ent)]).length (erows (kr ++ [(⟨vid, a, port, t⟩ : Ent)])) := by
      rw [hl, erows_snoc]; exact hown11
    have h9 : St B w0 w11 _ := ((H8.out.drew.ext ((Below.refl _ _).alloc (Nat.le_refl _) (.cells (Ent.vals ⟨vid, a, port, t⟩).toArray 88))).pull 1 rfl).step (k' := rowI (.slice (some ⟨g, 0, none⟩) (kr.length + 1) cap') (kr ++ [(⟨vid, a, port, t⟩ : Ent)])) (by
      have e : (rowI (.slice A8 kr.length c8) kr).gs = gs := Hgs.out
      rw [e]; exact hf11) hrow (fun q hq => by
      have hq' : q = g := by
        have : q ∈ [g] := hq
        exact List.mem_singleton.1 this
      subst hq'
      rcases hat with h | h
      · left
        show q ∈ (Value.slice A8 kr.length c8).ownBlock.toList
        rw [h]; simp
      · right
        rw [h]; exact Nat.le_refl _)
    have h10 := (h9.pull 1 rfl).set 2 (.slice (some ⟨g, 0, none⟩) (kr.length + 1) cap') (by simp)
    go_wp2_with fail
    go_ret
    refine ⟨rfl, .slice (some ⟨g, 0, none⟩) (kr.length + 1) cap', ?_⟩
    rw [Hr.out]
    exact (((((h10.pull 2 rfl).tail).pull 2 rfl).tail.pull 2 rfl).tail.pull 2 rfl).tail
end
end Go.Proofs.Ytoenlcmngdpkmaa
