/- Rows of one's own as items; 'append' onto them; one world's items behind another's. Over any program. -/
import Derived.Test.YtjekdodboihfhaaDoorSt
import Derived.Test.YtjekdodboihfhaaDoorOwn
import Derived.Deep.AppendLies
set_option linter.all false
namespace Go.Proofs.YtjekdodboihfhaaDoor
open Go.RowKit
/-- A row of one's own. -/
def ownI (t size : Nat) (sv : Value) (n : Nat) (xs : List Value) : It where
  gs := sv.ownBlock.toList
  P w := w.ownsRow 0 t size sv n xs
  lt w h g hg := (h.lt g (by simpa [eq_comm] using hg)).2
  loc w W h hs hp := by
    refine ⟨hp.1, ?_⟩
    rcases hp.2 with h' | ⟨g, cap, cur, e1, e2, hh, r⟩
    · exact .inl h'
    · exact .inr ⟨g, cap, cur, e1, e2, (h g (by rw [e1]; simp [Value.ownBlock])).trans hh, r⟩
theorem ownI_nil (w : World) (t size : Nat) : (ownI t size (.slice none 0 0) 0 []).P w := ⟨by simp, .inl ⟨rfl, rfl⟩⟩
theorem St.own0 {B : Nat} {w0 w : World} {A : List It} (h : St B w0 w A) (t size : Nat) : St B w0 w (ownI t size (.slice none 0 0) 0 [] :: A) :=
  h.add (Below.refl _ _) (ownI_nil w t size) (fun g hg => by
    have : g ∈ ([] : List Nat) := hg
    cases this)
theorem St.toOwn {B : Nat} {w0 w : World} {A : List It} {g t n size : Nat} {L : List Value} (h : St B w0 w (bk g t L :: A)) (hL : L.length = n * size) (hn : n ≤ maxLen) : St B w0 w (ownI t size (.slice (some ⟨g, 0, none⟩) n n) n L :: A) :=
  h.step (k' := ownI t size (.slice (some ⟨g, 0, none⟩) n n) n L) (Fr.refl _ _) ⟨hL, .inr ⟨g, n, L.toArray, rfl, Nat.zero_le _, h.head, Nat.le_refl _, hn, by simpa using hL, by simp [← hL]⟩⟩ (fun x hx => .inl hx)
theorem Fr.mono {gs hs : List Nat} {w W : World} (h : Fr gs w W) (hg : ∀ g ∈ gs, g ∈ hs) : Fr hs w W := ⟨h.os, h.tape, h.output, h.size, fun k hk hn => h.block k hk (fun e => hn (hg k e))⟩
theorem St.grown {B : Nat} {w0 w w' : World} {A : List It} {t size n m g cap : Nat} {sv : Value} {xs news : List Value} (H : St B w0 w (ownI t size sv n xs :: A))
    (ho : w'.ownsRow 0 t size (.slice (some ⟨g, 0, none⟩) (n + m) cap) (n + m) (xs ++ news)) (hgrow : w.grownBy w' sv.ownBlock) (hat : sv.ownBlock = some g ∨ g = w.heap.size) :
    St B w0 w' (ownI t size (.slice (some ⟨g, 0, none⟩) (n + m) cap) (n + m) (xs ++ news) :: A) :=
  H.step (k' := ownI t size (.slice (some ⟨g, 0, none⟩) (n + m) cap) (n + m) (xs ++ news)) ⟨hgrow.os, hgrow.tape, hgrow.output, hgrow.size, fun q hq hn => hgrow.block q hq (fun e => hn (by
    show q ∈ sv.ownBlock.toList
    rw [← e]; simp))⟩ ho (fun q hq => by
    have hq' : q = g := by
      have : q ∈ [g] := hq
      exact List.mem_singleton.1 this
    subst hq'
    rcases hat with h | h
    · left
      show q ∈ sv.ownBlock.toList
      rw [h]; simp
    · right
      rw [h]; exact Nat.le_refl _)
/-- 'append' onto a row of one's own, by what a call owns. -/
theorem wpList_append_st {P : Program} {ops : Array Oper} {rest : List Oper} {d s x : Tmp} {t t' : TypeId} {pos : String} {after : Array Edge} {a : Act} {w w0 : World} {Q : Exit → Act → World → Prop} {e : TypeId} {size bytes n m c B : Nat} {v : Value} {from_ : Addr} {A : List It} (xs news : List Value)
    (E : ElemOk P t e size bytes) (H : St B w0 w (ownI e size v n xs :: A)) (hs : a.eval (.tmp s) = v) (hx : a.eval (.tmp x) = .slice (some from_) m c) (hr : ∀ j u, news[j]? = some u → w.cell? (from_.add j) = some u) (hl : news.length = m * size) (h1 : ∀ u ∈ news, u.oneCell' = true)
    (hm : 0 < m) (h63 : n + m ≤ maxLen) (hbytes : (n + m) * bytes ≤ 140737488355328)
    (h : ∀ g cap W, St B w0 W (ownI e size (.slice (some ⟨g, 0, none⟩) (n + m) cap) (n + m) (xs ++ news) :: A) → wpList P ops Q rest (a.put (some d) (.slice (some ⟨g, 0, none⟩) (n + m) cap)) W) :
    wpList P ops Q (⟨some d, .call { callee := .builtin .append, args := #[.tmp s, .tmp x], argTypes := #[t, t] }, t', pos, after, none⟩ :: rest) a w := by
  obtain ⟨ht, i, z, hi, hz, hsz, hby, hzs, hpos⟩ := E
  refine wpList_append_lies w rfl (.tmp s) (.tmp x) t rfl 0 e i z size bytes ht hi hz hsz hby hzs hpos v n xs hs H.head from_ m c news hx hl hr h1 hm h63 hbytes (Nat.zero_le _) _ rfl ?_
  intro g cap W h2 h3 h4 _
  exact h g cap W (H.grown h2 h3 h4)
theorem St.app {B : Nat} {w0 w W : World} {A A' : List It} (h : St B w0 w A) (k : St w.heap.size w W A') : St B w0 W (A' ++ A) := by
  have hle := h.le
  refine ⟨h.below.trans (k.below.mono hle), h.base, fun x hx => ?_, fun x hx g hg => ?_, List.pairwise_append.2 ⟨k.apart, h.apart, fun x hx y hy g hgx hgy => ?_⟩⟩
  · rcases List.mem_append.1 hx with hx | hx
    · exact k.own x hx
    · exact x.loc w W (fun g hg => k.below.block g (x.lt w (h.own x hx) g hg)) k.below.size (h.own x hx)
  · rcases List.mem_append.1 hx with hx | hx
    · have := k.low x hx g hg; omega
    · exact h.low x hx g hg
  · have h1 := k.low x hx g hgx
    have h2 := y.lt w (h.own y hy) g hgy
    omega
/-- A row of one's own, of cells. -/
theorem own_at {w : World} {t size n g cap : Nat} {xs : List Value} (h : w.ownsRow 0 t size (.slice (some ⟨g, 0, none⟩) n cap) n xs) (j : Nat) (v : Value) (hj : xs[j]? = some v) : w.cell? ⟨g, j, none⟩ = some v := by
  obtain ⟨hl, h' | ⟨g', cap', cur, e1, _, hh, _, _, _, ht⟩⟩ := h
  · cases h'.1
  · injection e1 with e1 _ _
    injection e1 with e1
    injection e1 with e1
    subst e1
    have hc : w.cell? ⟨g, j, none⟩ = cur[j]? := by unfold World.cell?; simp [hh]
    rw [hc]
    rw [← ht] at hj
    have hlt := (List.getElem?_eq_some_iff.1 hj).1
    rw [List.length_take] at hlt
    rw [List.getElem?_take_of_lt (by omega)] at hj
    simpa using hj
theorem own_lt' {w : World} {t size n g cap : Nat} {xs : List Value} (h : w.ownsRow 0 t size (.slice (some ⟨g, 0, none⟩) n cap) n xs) : g < w.heap.size := (h.lt g (by simp [Value.ownBlock])).2
/-- The cells of ints. -/
def intC (l : List Int) : List Value := l.map (Value.int .i64)
theorem intC_len (l : List Int) : (intC l).length = l.length := by simp [intC]
theorem intC_one (l : List Int) : ∀ v ∈ intC l, v.oneCell' = true := fun v hv => by
  obtain ⟨x, _, rfl⟩ := List.mem_map.1 hv; rfl
theorem intC_app (l m : List Int) : intC (l ++ m) = intC l ++ intC m := by simp [intC]
/-- A whole store, as an operation. -/
theorem oper_store_blk {P : Program} {ty : TypeId} {p q : Tmp} {t' : TypeId} {pos : String} {after : Array Edge} {a : Act} {w : World} {K : Act → World → Prop} {Q : Exit → Act → World → Prop} {b o : Nat} {t : TypeId} (L cs : List Value)
    (hx : a.eval (.tmp p) = .pointer (some ⟨b, o, none⟩)) (hy : (a.eval (.tmp q)).cells = cs.toArray) (hB : Blk w b t L) (ho : o + cs.length ≤ L.length) (hi : (P.info? ty).map (·.size) = some cs.length) (h1 : ∀ v ∈ cs, v.oneCell' = true)
    (h : ∀ W, Blk W b t (L.take o ++ (cs ++ L.drop (o + cs.length))) → Only b w W → K a W) :
    Oper.wp P ⟨none, .store ty (.tmp p) (.tmp q), t', pos, after, none⟩ a w K Q := by
  have H := h _ (hB.set cs o ho) (Only.setCells cs o ⟨rfl, rfl, rfl, rfl, fun _ _ => rfl⟩)
  unfold Oper.wp execOp
  simp only [hx, Instr.storeAt, Instr.sureAddr, Sem.run_bind, Sem.run_pure, Result.andThen_ok, run_storeVar_any w b o ty _ cs hy (hB.box.there o ho) hi h1]
  exact H
end Go.Proofs.YtjekdodboihfhaaDoor
