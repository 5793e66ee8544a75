import Derived.Test.YtenkabjkgngcdaaGreatKe5
import Derived.Test.YtenkabjkgngcdaaGreatKc8
import Derived.Test.YtenkabjkgngcdaaGreatKd3
set_option linter.unusedVariables false
set_option linter.unusedSimpArgs false
set_option linter.unusedSectionVars false
namespace Go.Proofs.YtenkabjkgngcdaaGreat.Ab
open Go
def zDU (po pl : Int) (pL : List (List Dat)) : List (List UInt8) := (zBE pL po pl).map inf
structure Snd (N n1 room : Int) (a : ASt) (s : SSt) (pn : Int) (qt : List UInt8) (po pl : Int) (pL : List (List Dat)) (tn owe : Int) (v : Bool) (W : List UInt8) (C T : Int) : Prop where
 rel : Rel N a s
 po0 : 0 ≤ po
 pl0 : 0 ≤ pl
 pL0 : po + pl ≤ (pL.length : Int)
 ql : (qt.length : Int) ≤ room
 pn0 : 0 ≤ pn
 pn1 : pn ≤ room
 ow0 : 0 ≤ owe
 ow1 : owe ≤ room
 pay : pays (zBf s ++ zDU po pl pL) ++ qt = W
 jn : jn false (zBf s ++ zDU po pl pL) = some v
 jv : qt ≠ [] → v = false
 inL : ∀ i ∈ zBf s ++ zDU po pl pL, (i.length : Int) ≤ n1
 inG : ∀ i ∈ zBf s, isG i = true → ∃ g : Int, 0 ≤ g ∧ g ≤ room ∧ i = zAN g
 noG : ∀ i ∈ zDU po pl pL, isG i = false
 crd : pn + ((pays (zDU po pl pL)).length : Int) + ((pays (zBf s)).length : Int) ≤ C
 rcv : tn + owe + grs (zBf s) = T
theorem ASt.push_is (a : ASt) (d : Dat) : (a.push d).2 = { a with left := (a.push d).2.left, off := (a.push d).2.off, len := (a.push d).2.len, L := (a.push d).2.L } := by
 unfold ASt.push;split
 ·rfl
 ·split
  ·rfl
  ·rfl
theorem zSo (i : FIn) (f : FSt) (d : Dat) : i.arq (f.push i d) = ((i.arq f).push d).2 := by
 rw [ASt.push_is (i.arq f) d];rfl
theorem zGC {N : Int} {a : ASt} {s : SSt} (h : Rel N a s) (hf : a.failed = false) (hl : a.len < a.k) (d : Dat) : (s.push d).1 = 0 ∧ Rel (N + 1) (a.push d).2 (s.push d).2 ∧ (a.push d).2.len = a.len + 1 := by
 obtain ⟨h1, h2⟩ := h.push d;have e : (a.push d).1 = 0 := by
  unfold ASt.push;rw [hf, if_neg (by simp), if_neg (by omega)]
 refine ⟨h1 ▸ e, h2, ?_⟩;unfold ASt.push;rw [hf, if_neg (by simp), if_neg (by omega)]
 show (a.W.length : Int) + 1 = a.len + 1;rw [h.alen]
theorem zJ7 {N : Int} {a : ASt} {s : SSt} (h : Rel N a s) (hf : a.failed = false) (hl : a.len < a.k) (d : Dat) : zBf (s.push d).2 = zBf s ++ [d.asS] := by
 obtain ⟨h1, _⟩ := zGC h hf hl d;obtain ⟨_, _, _, _, h2⟩ := zJZ s d;unfold zBf;rw [(h2 h1).2, List.map_append];rfl
theorem zNJ {po : Int} {pL : List (List Dat)} {pl : Int} (h : pl ≤ 0) : zDU po pl pL = [] := by
 unfold zDU zBE;rw [show pl.toNat = 0 by omega, List.take_zero]
 rfl
theorem zZa {po pl : Int} {pL : List (List Dat)} (h0 : 0 ≤ po) (h1 : 0 < pl) (h2 : po + pl ≤ (pL.length : Int)) : zDU po pl pL = inf (pL.getD po.toNat []) :: zDU (po + 1) (pl - 1) pL := by
 unfold zDU zBE;have hl : po.toNat < pL.length := by omega
 rw [List.drop_eq_getElem_cons hl, show pl.toNat = (pl - 1).toNat + 1 by omega, List.take_succ_cons, show (po + 1).toNat = po.toNat + 1 by omega, List.map_cons, List.getD_eq_getElem?_getD, List.getElem?_eq_getElem hl]
 rfl
theorem zZc (L : List (List Dat)) : zDU 0 (L.length : Int) L = L.map inf := by
 unfold zDU zBE;rw [show ((0 : Int)).toNat = 0 from rfl, List.drop_zero, Int.toNat_natCast, List.take_length]
theorem zOZ (m : List UInt8) (n : Int) : (zA1 m n).map inf = zAx (n.toNat - 1) m.length 129 m := by
 unfold zA1;rw [List.map_map];exact List.map_id'' (fun _ => rfl) _
theorem zCZ (s : List UInt8) (n : Int) : zBl s 0 n = s.take n.toNat := by unfold zBl; simp
theorem zLs {s : List UInt8} {n : Nat} : zBl s (n : Int) (s.length : Int) = s.drop n := by
 unfold zBl;rw [Int.toNat_natCast, Int.toNat_natCast, List.take_of_length_le (by rw [List.length_drop]; omega)]
theorem zGE (g : Int) : pay (zAN g) = [] := rfl
theorem Snd.grant {N n1 room : Int} {a : ASt} {s : SSt} {pn : Int} {qt : List UInt8} {po pl : Int} {pL : List (List Dat)} {tn owe : Int} {v : Bool} {W : List UInt8} {C T : Int}
  (h : Snd N n1 room a s pn qt po pl pL tn owe v W C T) (hf : a.failed = false) (hl : a.len < a.k) (hp : pl ≤ 0 ∨ 0 ≤ pl) (h3 : 3 ≤ n1) (hr : room ≤ 4096) :
  Snd (N + 1) n1 room (a.push (.dS (zAN owe))).2 (s.push (.dS (zAN owe))).2 pn qt po pl pL tn 0 v W C T := by
 obtain ⟨g1, g2, g3⟩ := zGC h.rel hf hl (.dS (zAN owe));have gi := zJ7 h.rel hf hl (.dS (zAN owe));have gi : zBf (s.push (.dS (zAN owe))).2 = zBf s ++ [zAN owe] := gi;have ow0 := h.ow0; have ow1 := h.ow1;refine ⟨g2, h.po0, h.pl0, h.pL0, h.ql, h.pn0, h.pn1, Int.le_refl _, by omega, ?_, ?_, h.jv, ?_, ?_, h.noG, ?_, ?_⟩
 ·rw [gi, List.append_assoc, zBr, List.singleton_append];show (pays (zBf s) ++ (Ab.pay (zAN owe) ++ pays (zDU po pl pL))) ++ qt = W;rw [zGE, List.nil_append, ← zBr]; exact h.pay
 ·rw [gi, List.append_assoc, zF6];have := h.jn;rw [zF6] at this;cases hj : Ab.jn false (zBf s) with
  | none => rw [hj] at this; cases this
  | some u =>
   rw [hj] at this;show Ab.jn u (zAN owe :: zDU po pl pL) = some v;unfold Ab.jn;rw [if_pos zRC]; exact this
 ·intro i hi;rw [gi] at hi;rcases List.mem_append.1 hi with hi | hi
  ·rcases List.mem_append.1 hi with hi | hi
   ·exact h.inL i (List.mem_append_left _ hi)
   ·obtain rfl := List.mem_singleton.1 hi;show ((3 : Nat) : Int) ≤ n1;omega
  ·exact h.inL i (List.mem_append_right _ hi)
 ·intro i hi hg;rw [gi] at hi;rcases List.mem_append.1 hi with hi | hi
  ·exact h.inG i hi hg
  ·obtain rfl := List.mem_singleton.1 hi;exact ⟨owe, ow0, ow1, rfl⟩
 ·rw [gi, zBr, zCS, zGE, List.append_nil]; exact h.crd
 ·rw [gi, zES];have e : grs [zAN owe] = owe := by
   show gr (zAN owe) + 0 = owe;unfold gr;rw [if_pos zRC, zIp ow0 (by omega)]; omega
  rw [e];have := h.rcv;omega
theorem Snd.part {N n1 room : Int} {a : ASt} {s : SSt} {pn : Int} {qt : List UInt8} {po pl : Int} {pL : List (List Dat)} {tn owe : Int} {v : Bool} {W : List UInt8} {C T : Int}
  (h : Snd N n1 room a s pn qt po pl pL tn owe v W C T) (hf : a.failed = false) (hl : a.len < a.k) (hp : 0 < pl) :
  Snd (N + 1) n1 room (a.push ((pL.getD po.toNat []).getD 0 (.dI 0))).2 (s.push ((pL.getD po.toNat []).getD 0 (.dI 0))).2 pn qt (po + 1) (pl - 1) pL tn owe v W C T := by
 obtain ⟨g1, g2, g3⟩ := zGC h.rel hf hl ((pL.getD po.toNat []).getD 0 (.dI 0));have gi := zJ7 h.rel hf hl ((pL.getD po.toNat []).getD 0 (.dI 0));have gi : zBf (s.push ((pL.getD po.toNat []).getD 0 (.dI 0))).2 = zBf s ++ [inf (pL.getD po.toNat [])] := gi;have ep := zZa h.po0 hp h.pL0;have po0 := h.po0; have pL0 := h.pL0;have eq : zBf (s.push ((pL.getD po.toNat []).getD 0 (.dI 0))).2 ++ zDU (po + 1) (pl - 1) pL = zBf s ++ zDU po pl pL := by
  rw [gi, List.append_assoc, List.singleton_append, ← ep]
 have hng : isG (inf (pL.getD po.toNat [])) = false := h.noG _ (by rw [ep]; exact List.mem_cons_self)
 refine ⟨g2, by omega, by omega, by omega, h.ql, h.pn0, h.pn1, h.ow0, h.ow1, by rw [eq]; exact h.pay, by rw [eq]; exact h.jn, h.jv, by rw [eq]; exact h.inL, ?_, fun i hi => h.noG i (by rw [ep]; exact List.mem_cons_of_mem _ hi), ?_, ?_⟩
 ·intro i hi hg;rw [gi] at hi;rcases List.mem_append.1 hi with hi | hi
  ·exact h.inG i hi hg
  ·obtain rfl := List.mem_singleton.1 hi;rw [hng] at hg; cases hg
 ·rw [gi, zBr, zCS];have := h.crd;rw [ep] at this;have e : pays (inf (pL.getD po.toNat []) :: zDU (po + 1) (pl - 1) pL) = Ab.pay (inf (pL.getD po.toNat [])) ++ pays (zDU (po + 1) (pl - 1) pL) := rfl;rw [e, List.length_append] at this;rw [List.length_append];omega
 ·rw [gi, zES];have e : grs [inf (pL.getD po.toNat [])] = 0 := by
   show gr _ + 0 = 0;unfold gr;rw [hng, if_neg (by simp)]; rfl
  rw [e];have := h.rcv;omega
theorem Snd.cut {N n1 room : Int} {a : ASt} {s : SSt} {pn : Int} {qt : List UInt8} {po pl : Int} {pL : List (List Dat)} {tn owe : Int} {v : Bool} {W : List UInt8} {C T : Int} {qf qr : Int}
  (h : Snd N n1 room a s pn qt po pl pL tn owe v W C T) (hp : pl ≤ 0) (h3 : 2 ≤ n1) (hc : (zAL pn qf qt qr n1 po pl pL).ok = true) (hr : room ≤ 4096) :
  Snd N n1 room a s (zAL pn qf qt qr n1 po pl pL).pn (zAL pn qf qt qr n1 po pl pL).qt (zAL pn qf qt qr n1 po pl pL).po (zAL pn qf qt qr n1 po pl pL).pl (zAL pn qf qt qr n1 po pl pL).pL tn owe v W C T ∧ 0 < (zAL pn qf qt qr n1 po pl pL).pl := by
 unfold zAL at hc ⊢;split at hc
 ·cases hc
 rename_i hne;rw [if_neg hne];have hN : 0 < zFW qt pn n1 ∧ zFW qt pn n1 ≤ pn := by omega
 have hq : zFW qt pn n1 ≤ (qt.length : Int) := by unfold zFW; omega
 generalize hn : zFW qt pn n1 = n at *;obtain ⟨k, rfl⟩ : ∃ k : Nat, n = k := ⟨n.toNat, by omega⟩
 have ql := h.ql; have pn0 := h.pn0;have crd := h.crd;have hpn : pn ≤ C := by omega
 have e1 : zBl qt 0 (k : Int) = qt.take k := zCZ qt k;have e2 : ((qt.take k).length : Int) = k := by rw [List.length_take]; omega
 have e3 : zBl qt ((qt.take k).length : Int) (qt.length : Int) = qt.drop k := by
  rw [show ((qt.take k).length : Int) = ((k : Nat) : Int) from e2]; exact zLs
 have ep : zDU po pl pL = [] := zNJ hp;obtain ⟨⟨p1, _⟩, ⟨p2, _⟩, p3, _⟩ := zNM (k := n1.toNat - 1) (by omega) (qt.take k).length (qt.take k) (Nat.le_refl _)
 have ei : zDU 0 ((zA1 (qt.take k) n1).length : Int) (zA1 (qt.take k) n1) = zAx (n1.toNat - 1) (qt.take k).length 129 (qt.take k) := by
  rw [zZc, zOZ]
 have hqn : qt ≠ [] := fun e => by rw [e] at hq; simp at hq; omega
 have hv := h.jv hqn;have hjn := h.jn;rw [ep, List.append_nil] at hjn;have hpay := h.pay;rw [ep, List.append_nil] at hpay;have pn1 := h.pn1;have ew : IntKind.i64.wrap (pn - (k : Int)) = pn - k := i64wrap (by omega) (by omega)
 have hlen : 0 < (zA1 (qt.take k) n1).length := by
  unfold zA1;rw [List.length_map]; exact zJy _ _ _ _
 rw [e1];refine ⟨⟨h.rel, Int.le_refl _, ?_, ?_, ?_, ?_, ?_, h.ow0, h.ow1, ?_, ?_, fun _ => hv, ?_, h.inG, ?_, ?_, h.rcv⟩, ?_⟩
 ·show (0 : Int) ≤ ((zA1 (qt.take k) n1).length : Int);omega
 ·show (0 : Int) + ((zA1 (qt.take k) n1).length : Int) ≤ ((zA1 (qt.take k) n1).length : Int);omega
 ·show ((zBl qt ((qt.take k).length : Int) qt.length).length : Int) ≤ room;rw [e3, List.length_drop]; omega
 ·show 0 ≤ IntKind.i64.wrap (pn - (k : Int));rw [ew]; omega
 ·show IntKind.i64.wrap (pn - (k : Int)) ≤ room;rw [ew]; omega
 ·show pays (zBf s ++ zDU 0 ((zA1 (qt.take k) n1).length : Int) (zA1 (qt.take k) n1)) ++ zBl qt ((qt.take k).length : Int) qt.length = W;rw [ei, zBr, p2, e3, List.append_assoc, List.take_append_drop]; exact hpay
 ·show Ab.jn false (zBf s ++ zDU 0 ((zA1 (qt.take k) n1).length : Int) (zA1 (qt.take k) n1)) = some v;rw [ei, zF6, hjn, hv]; exact p1
 ·show ∀ i ∈ zBf s ++ zDU 0 ((zA1 (qt.take k) n1).length : Int) (zA1 (qt.take k) n1), (i.length : Int) ≤ n1;rw [ei];intro i hi;rcases List.mem_append.1 hi with hi | hi
  ·exact h.inL i (List.mem_append_left _ hi)
  ·have := (p3 i hi).1;omega
 ·show ∀ i ∈ zDU 0 ((zA1 (qt.take k) n1).length : Int) (zA1 (qt.take k) n1), isG i = false;rw [ei];exact fun i hi => (p3 i hi).2
 ·show IntKind.i64.wrap (pn - (k : Int)) + ((pays (zDU 0 ((zA1 (qt.take k) n1).length : Int) (zA1 (qt.take k) n1))).length : Int) + ((pays (zBf s)).length : Int) ≤ C;rw [ei, p2, ew, e2];rw [ep] at crd;have : ((pays ([] : List (List UInt8))).length : Int) = 0 := rfl;omega
 ·show 0 < ((zA1 (qt.take k) n1).length : Int);omega
abbrev xED (N n1 room : Int) (i : FIn) (s : SSt) (f : FSt) (v : Bool) (W : List UInt8) (C T : Int) : Prop := Snd N n1 room (i.arq f) s f.pn f.qt f.po f.pl f.pL i.tn f.owe v W C T
structure SKeep (s s' : SSt) : Prop where
 top : s'.top = s.top
 acked : s'.acked = s.acked
 got : s'.got = s.got
 more : ∃ Q, zBf s' = zBf s ++ Q
theorem SKeep.refl (s : SSt) : SKeep s s := ⟨rfl, rfl, rfl, [], by simp⟩
theorem SKeep.trans {a b c : SSt} (h : SKeep a b) (k : SKeep b c) : SKeep a c := by
 obtain ⟨P, hp⟩ := h.more;obtain ⟨Q, hq⟩ := k.more;exact ⟨k.top.trans h.top, k.acked.trans h.acked, k.got.trans h.got, P ++ Q, by rw [hq, hp, List.append_assoc]⟩
theorem zKR {N : Int} {a : ASt} {s : SSt} (h : Rel N a s) (hf : a.failed = false) (hl : a.len < a.k) (d : Dat) : SKeep s (s.push d).2 := by
 obtain ⟨k1, k2, k3, _, _⟩ := zJZ s d;exact ⟨k1, k2, k3, _, zJ7 h hf hl d⟩
def muF (i : FIn) (f : FSt) : Nat := 2 * (i.k - f.len).toNat + (if f.pl > 0 then 0 else 1)
theorem zWk {N : Int} {i : FIn} {s : SSt} {f : FSt} (h : Rel N (i.arq f) s) : zDj f = true := by
 unfold zDj;refine decide_eq_true ?_;have e : (i.arq f).len = f.len := rfl;have e2 : (i.arq f).off = f.off := rfl;have e3 : (i.arq f).L = f.L := rfl;have h1 := h.len; have h2 := h.lenk; have h3 := h.k7; have h4 := h.sent0; have h5 := h.top0; have h6 := h.len0; have h7 := h.aoff; have h8 := h.aL;rw [e] at h1; rw [e2] at h7; rw [e, e2, e3] at h8;exact ⟨by omega, by omega, h8, h7⟩
theorem zRq {N : Int} {i : FIn} {s : SSt} {f : FSt} (h : Rel N (i.arq f) s) (hf : i.a.failed = false) (hl : f.len < i.a.k) (d : Dat) : (f.push i d).len = f.len + 1 := (zGC h hf hl d).2.2
theorem zQB {M n1 room : Int} {i : FIn} {v : Bool} {W : List UInt8} {C T : Int} (hf : i.a.failed = false) (hk : i.k = i.a.k) (hn : i.n1 = n1) (h3 : 3 ≤ n1) (h128 : n1 ≤ 128) (hr : room ≤ 4096) :
  ∀ (n : Nat) (f : FSt) (s : SSt), xED (M + f.len) n1 room i s f v W C T → muF i f < n → (f.run i n).2 = true ∧ (∃ s', xED (M + (f.run i n).1.len) n1 room i s' (f.run i n).1 v W C T ∧ SKeep s s') ∧ f.len ≤ (f.run i n).1.len ∧ (zMa f.len i.k f.owe i.tn i.room f.pl f.qt f.pn i.may = true → f.len < (f.run i n).1.len)
 | 0, f, s, h, hm => absurd hm (Nat.not_lt_zero _)
 | n + 1, f, s, h, hm => by
  have hok := zWk h.rel;by_cases hl : f.len < i.k
  ·cases ho : zDu f.owe i.tn i.room with
   | true =>
    have hs := zCW hl ho;have g := h.grant hf (show f.len < i.a.k by omega) (.inr h.pl0) h3 hr
    have hp := zRq (f := ({ f with owe := 0 } : FSt)) (i := i) (s := s) h.rel hf (show f.len < i.a.k by omega) (.dS (zAN f.owe))
    have hm' : muF i (({ f with owe := 0 } : FSt).push i (.dS (zAN f.owe))) < n := by
     unfold muF at hm ⊢;rw [hp];have e : (({ f with owe := 0 } : FSt).push i (.dS (zAN f.owe))).pl = f.pl := rfl
     rw [e];show 2 * (i.k - (f.len + 1)).toNat + _ < n;omega
    have g' : xED (M + (({ f with owe := 0 } : FSt).push i (.dS (zAN f.owe))).len) n1 room i (s.push (.dS (zAN f.owe))).2 (({ f with owe := 0 } : FSt).push i (.dS (zAN f.owe))) v W C T := by
     rw [hp];unfold xED;rw [zSo];rw [show M + (f.len + 1) = M + f.len + 1 by omega]
     exact g
    obtain ⟨r1, ⟨s', r2, r3⟩, r4, r5⟩ := zQB hf hk hn h3 h128 hr n _ _ g' hm';rw [hp] at r4;unfold FSt.run;rw [hs, if_pos rfl];exact ⟨by show (zDj f && _) = true; rw [hok, r1]; rfl, ⟨s', r2, (zKR h.rel hf (show f.len < i.a.k by omega) _).trans r3⟩, Int.le_trans (show f.len ≤ f.len + 1 by omega) r4, fun _ => Int.lt_of_lt_of_le (show f.len < f.len + 1 by omega) r4⟩
   | false =>
    cases hmay : i.may with
    | false =>
     have hs := step_ret hl ho hmay;unfold FSt.run;rw [hs, if_neg (by simp)]
     refine ⟨rfl, ⟨s, h, SKeep.refl s⟩, Int.le_refl _, fun hmb => ?_⟩;unfold zMa at hmb;rw [ho] at hmb;simp at hmb
    | true =>
     by_cases hp0 : f.pl > 0
     ·have hs := zI5 hl ho hmay hp0;have g := h.part hf (show f.len < i.a.k by omega) hp0
      have hp := zRq (i := i) (s := s) h.rel hf (show f.len < i.a.k by omega) (partAt f)
      have hm' : muF i ({ (f.push i (partAt f)) with po := f.po + 1, pl := f.pl - 1 } : FSt) < n := by
       unfold muF at hm ⊢;show 2 * (i.k - (f.push i (partAt f)).len).toNat + (if f.pl - 1 > 0 then 0 else 1) < n
       rw [hp];rw [if_pos hp0] at hm;split <;> omega
      have g' : xED (M + ({ (f.push i (partAt f)) with po := f.po + 1, pl := f.pl - 1 } : FSt).len) n1 room i (s.push (partAt f)).2 ({ (f.push i (partAt f)) with po := f.po + 1, pl := f.pl - 1 } : FSt) v W C T := by
       show Snd (M + (f.push i (partAt f)).len) n1 room (i.arq (f.push i (partAt f))) _ f.pn f.qt (f.po + 1) (f.pl - 1) f.pL i.tn f.owe v W C T;rw [hp, zSo, show M + (f.len + 1) = M + f.len + 1 by omega]
       exact g
      obtain ⟨r1, ⟨s', r2, r3⟩, r4, r5⟩ := zQB hf hk hn h3 h128 hr n _ _ g' hm';have r4 : (f.push i (partAt f)).len ≤ _ := r4;rw [hp] at r4;unfold FSt.run;rw [hs, if_pos rfl];exact ⟨by show (zDj f && _) = true; rw [hok, r1]; rfl, ⟨s', r2, (zKR h.rel hf (show f.len < i.a.k by omega) _).trans r3⟩, Int.le_trans (show f.len ≤ f.len + 1 by omega) r4, fun _ => Int.lt_of_lt_of_le (show f.len < f.len + 1 by omega) r4⟩
     ·have hs := zLB hl ho hmay hp0;have hoc : zJ6 f.qt f.pn i.n1 := ⟨by omega, by omega, by have := h.ql; omega⟩
      have hd : decide (zJ6 f.qt f.pn i.n1) = true := decide_eq_true hoc;cases hc : (zCn i f).ok with
      | false =>
       unfold FSt.run;rw [hs, hc, if_neg (by simp)]
       have e : zCn i f = ⟨false, f.pn, f.qf, f.qt, f.po, f.pl, f.pL⟩ := by
        unfold zCn zAL at hc ⊢;split
        ·rfl
        ·rename_i hx; rw [if_neg hx] at hc; cases hc
       refine ⟨hd, ⟨s, by rw [e]; exact h, SKeep.refl s⟩, Int.le_refl _, fun hmb => ?_⟩
       exfalso;unfold zMa at hmb;rw [ho, decide_eq_false hp0] at hmb;simp only [Bool.false_or, Bool.true_and, Bool.and_eq_true, decide_eq_true_eq] at hmb;obtain ⟨_, m1, m2⟩ := hmb;unfold zCn zAL at hc;have hw1 : IntKind.i64.wrap (i.n1 - 1) = i.n1 - 1 := i64wrap (by omega) (by omega)
       have hw2 : IntKind.i64.wrap (8 * (i.n1 - 1)) = 8 * (i.n1 - 1) := i64wrap (by omega) (by omega)
       have hcn : 0 < zFW f.qt f.pn i.n1 ∧ zFW f.qt f.pn i.n1 ≤ f.pn := by
        unfold zFW;rw [hw1, hw2];omega
       rw [if_neg (by omega)] at hc
       cases hc
      | true =>
       obtain ⟨g, gp⟩ := h.cut (qf := f.qf) (qr := i.qr) (by omega) (by omega) (show (zAL f.pn f.qf f.qt i.qr n1 f.po f.pl f.pL).ok = true by rw [← hn]; exact hc) hr
       rw [← hn] at g gp;have hm' : muF i ({ f with pn := (zCn i f).pn, qf := (zCn i f).qf, qt := (zCn i f).qt, po := (zCn i f).po, pl := (zCn i f).pl, pL := (zCn i f).pL } : FSt) < n := by
        unfold muF at hm ⊢;show 2 * (i.k - f.len).toNat + (if (zCn i f).pl > 0 then 0 else 1) < n
        rw [if_pos (show (zCn i f).pl > 0 from gp)]
        rw [if_neg hp0] at hm;omega
       rw [hn] at g;obtain ⟨r1, ⟨s', r2, r3⟩, r4, r5⟩ := zQB hf hk hn h3 h128 hr n ({ f with pn := (zCn i f).pn, qf := (zCn i f).qf, qt := (zCn i f).qt, po := (zCn i f).po, pl := (zCn i f).pl, pL := (zCn i f).pL } : FSt) s (by
        show Snd (M + f.len) n1 room (i.arq f) s (zCn i f).pn (zCn i f).qt (zCn i f).po (zCn i f).pl (zCn i f).pL i.tn f.owe v W C T;unfold zCn;rw [hn]; exact g) hm'
       unfold FSt.run;rw [hs, hc, if_pos rfl];refine ⟨by show (decide (zJ6 f.qt f.pn i.n1) && _) = true; rw [hd, r1]; rfl, ⟨s', r2, r3⟩, r4, fun _ => r5 ?_⟩
       show (decide (f.len < i.k) && (zDu f.owe i.tn i.room || (i.may && (decide ((zCn i f).pl > 0) || _)))) = true;rw [decide_eq_true hl, decide_eq_true (show (zCn i f).pl > 0 from gp)]
       simp [hmay]
  ·have hs := zGb hl;unfold FSt.run;rw [hs, if_neg (by simp)]
   refine ⟨rfl, ⟨s, h, SKeep.refl s⟩, Int.le_refl _, fun hmb => ?_⟩;unfold zMa at hmb;rw [decide_eq_false hl] at hmb;simp at hmb
end Go.Proofs.YtenkabjkgngcdaaGreat.Ab
