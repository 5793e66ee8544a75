import Derived.Test.YtenkabjkgngcdaaGreatKe4
set_option linter.unusedVariables false
set_option linter.unusedSimpArgs false
set_option linter.unusedSectionVars false
namespace Go.Proofs.YtenkabjkgngcdaaGreat.Ab
open Go
def zHB (f : Frm) : Prop := f.k = 0 ∨ (1 ≤ f.k ∧ f.k ≤ 4 ∧ f.d = 7 ∧ f.info = [])
def LkS (st lst : Int) (listens : Bool) : Prop := (st = 1 ∧ lst = 1) ∨ (st = 2 ∧ lst = 2) ∨ (st = 3 ∧ lst = 3) ∨ (st = 4 ∧ lst = 4) ∨ ((st = 5 ∨ st = 6) ∧ (lst = 1 ∨ lst = 5) ∧ listens = false)
structure LkI (c : Core) : Prop where
 s : LkS c.st c.l.st c.l.listens
 tr0 : 0 ≤ c.l.tries
 tr1 : c.l.tries ≤ 255
 mo1 : c.l.most ≤ 255
 lf0 : 0 ≤ c.left
 lf1 : c.left ≤ 255
 t10 : 1 ≤ c.t1
 t11 : c.t1 ≤ 255
 dl : c.dlci = 7
 says : zHB c.says
 asks : zHB c.asks
structure Mv (c d : Core) : Prop where
 q : (d.qt = c.qt ∧ d.po = c.po ∧ d.pl = c.pl ∧ d.pL = c.pL ∧ d.qf = c.qf ∧ (c.st = 3 → d.st = 3)) ∨ (d.qt = [] ∧ d.po = 0 ∧ d.pl = 0 ∧ d.pL = [] ∧ 4 ≤ d.st)
 up : 4 ≤ c.st → 4 ≤ d.st
 qr : d.qr = c.qr
structure LaOk (l : LSt) (a : LAct) (l' : LSt) : Prop where
 lis : l'.listens = l.listens
 mo : l'.most = l.most
 tr0 : 0 ≤ l'.tries
 tr1 : l'.tries ≤ 255
 kind : a.kind = 0 ∨ (1 ≤ a.kind ∧ a.kind ≤ 4)
theorem zOB (c : Core) (a : LAct) : (c.act a).st = if a.fact = 1 ∨ a.fact = 2 then 3 else if a.fact = 4 ∨ a.fact = 5 then 5 else if a.fact = 6 then 6 else c.st := by
 have h2 : ∀ d : Core, (d.act2 a).st = d.st := fun d => by unfold Core.act2; split; rfl; split <;> rfl
 have h1 : ∀ d : Core, (d.act1 a).st = d.st := fun d => by unfold Core.act1; split; rfl; split <;> rfl
 show (((c.act1 a).act2 a).act3 a).st = _;generalize hd : (c.act1 a).act2 a = d;have e : d.st = c.st := by rw [← hd, h2, h1]
 unfold Core.act3;by_cases q2 : a.fact = 2
 ·rw [if_pos q2, if_pos (.inr q2)]
 ·rw [if_neg q2];by_cases q1 : a.fact = 1
  ·rw [if_pos q1, if_pos (.inl q1)]
  ·rw [if_neg q1, if_neg (show ¬(a.fact = 1 ∨ a.fact = 2) by omega)]
   by_cases q4 : a.fact = 4 ∨ a.fact = 5
   ·rw [if_pos q4, if_pos q4]; rfl
   ·rw [if_neg q4, if_neg q4];by_cases q6 : a.fact = 6
    ·rw [if_pos q6, if_pos q6]; rfl
    ·rw [if_neg q6, if_neg q6]; exact e
theorem xIA (c : Core) (a : LAct) : (c.act a).l = if a.fact = 4 ∨ a.fact = 5 ∨ a.fact = 6 then c.l.fin c.n2 else c.l := by
 have h2 : ∀ d : Core, (d.act2 a).l = d.l ∧ (d.act2 a).n2 = d.n2 := fun d => by unfold Core.act2; split; exact ⟨rfl, rfl⟩; split <;> exact ⟨rfl, rfl⟩
 have h1 : ∀ d : Core, (d.act1 a).l = d.l ∧ (d.act1 a).n2 = d.n2 := fun d => by unfold Core.act1; split; exact ⟨rfl, rfl⟩; split <;> exact ⟨rfl, rfl⟩
 show (((c.act1 a).act2 a).act3 a).l = _;generalize hd : (c.act1 a).act2 a = d;have e : d.l = c.l := by rw [← hd, (h2 _).1, (h1 _).1]
 have e2 : d.n2 = c.n2 := by rw [← hd, (h2 _).2, (h1 _).2]
 unfold Core.act3;by_cases q2 : a.fact = 2
 ·rw [if_pos q2, if_neg (by omega)]; exact e
 ·rw [if_neg q2];by_cases q1 : a.fact = 1
  ·rw [if_pos q1, if_neg (by omega)]; exact e
  ·rw [if_neg q1];by_cases q4 : a.fact = 4 ∨ a.fact = 5
   ·rw [if_pos q4, if_pos (by omega), ← e, ← e2]; rfl
   ·rw [if_neg q4];by_cases q6 : a.fact = 6
    ·rw [if_pos q6, if_pos (by omega), ← e, ← e2]; rfl
    ·rw [if_neg q6, if_neg (by omega)]; exact e
theorem xAg (c : Core) (a : LAct) (h0 : 0 ≤ c.left) (h1 : c.left ≤ 255) (t0 : 1 ≤ c.t1) (t1 : c.t1 ≤ 255) : 0 ≤ (c.act a).left ∧ (c.act a).left ≤ 255 := by
 have k1 : (c.act1 a).left = c.left ∧ (c.act1 a).t1 = c.t1 := by unfold Core.act1; split; exact ⟨rfl, rfl⟩; split <;> exact ⟨rfl, rfl⟩
 have k2 : 0 ≤ ((c.act1 a).act2 a).left ∧ ((c.act1 a).act2 a).left ≤ 255 := by
  unfold Core.act2;split
  ·show 0 ≤ (c.act1 a).t1 ∧ (c.act1 a).t1 ≤ 255;omega
  ·split
   ·exact ⟨by show (0 : Int) ≤ 0; omega, by show (0 : Int) ≤ 255; omega⟩
   ·omega
 show 0 ≤ (((c.act1 a).act2 a).act3 a).left ∧ (((c.act1 a).act2 a).act3 a).left ≤ 255;unfold Core.act3
 repeat' (first | exact k2 | exact ⟨by show (0 : Int) ≤ 0; omega, by show (0 : Int) ≤ 255; omega⟩ | split)
theorem zT7 (c : Core) (a : LAct) (hd : c.dlci = 7) (h1 : zHB c.says) (h2 : zHB c.asks) (hk : a.kind = 0 ∨ (1 ≤ a.kind ∧ a.kind ≤ 4)) : zHB (c.act a).says ∧ zHB (c.act a).asks := by
 have k1 : zHB (c.act1 a).says ∧ zHB (c.act1 a).asks := by
  unfold Core.act1;split
  ·exact ⟨h1, h2⟩
  ·rename_i hne;have hk' : 1 ≤ a.kind ∧ a.kind ≤ 4 := hk.resolve_left hne;split
   ·exact ⟨h1, .inr ⟨hk'.1, hk'.2, hd, rfl⟩⟩
   ·exact ⟨.inr ⟨hk'.1, hk'.2, hd, rfl⟩, h2⟩
 have k2 : zHB ((c.act1 a).act2 a).says ∧ zHB ((c.act1 a).act2 a).asks := by
  unfold Core.act2;split
  ·exact k1
  ·split
   ·exact k1
   ·exact k1
 show zHB (((c.act1 a).act2 a).act3 a).says ∧ zHB (((c.act1 a).act2 a).act3 a).asks;unfold Core.act3
 repeat' (first | exact k2 | exact ⟨k2.1, .inl rfl⟩ | split)
theorem xI9 (c : Core) (a : LAct) : ((c.act a).qt = c.qt ∧ (c.act a).po = c.po ∧ (c.act a).pl = c.pl ∧ (c.act a).pL = c.pL ∧ (c.act a).qf = c.qf ∧ ¬(a.fact = 4 ∨ a.fact = 5 ∨ a.fact = 6)) ∨ ((c.act a).qt = [] ∧ (c.act a).po = 0 ∧ (c.act a).pl = 0 ∧ (c.act a).pL = [] ∧ (a.fact = 4 ∨ a.fact = 5 ∨ a.fact = 6)) := by
 have h2 : ∀ d : Core, (d.act2 a).qt = d.qt ∧ (d.act2 a).po = d.po ∧ (d.act2 a).pl = d.pl ∧ (d.act2 a).pL = d.pL ∧ (d.act2 a).qf = d.qf := fun d => by unfold Core.act2; split; exact ⟨rfl, rfl, rfl, rfl, rfl⟩; split <;> exact ⟨rfl, rfl, rfl, rfl, rfl⟩
 have h1 : ∀ d : Core, (d.act1 a).qt = d.qt ∧ (d.act1 a).po = d.po ∧ (d.act1 a).pl = d.pl ∧ (d.act1 a).pL = d.pL ∧ (d.act1 a).qf = d.qf := fun d => by unfold Core.act1; split; exact ⟨rfl, rfl, rfl, rfl, rfl⟩; split <;> exact ⟨rfl, rfl, rfl, rfl, rfl⟩
 have e : ((((c.act1 a).act2 a).act3 a).qt = ((c.act1 a).act2 a).qt ∧ (((c.act1 a).act2 a).act3 a).po = ((c.act1 a).act2 a).po ∧ (((c.act1 a).act2 a).act3 a).pl = ((c.act1 a).act2 a).pl ∧ (((c.act1 a).act2 a).act3 a).pL = ((c.act1 a).act2 a).pL ∧ (((c.act1 a).act2 a).act3 a).qf = ((c.act1 a).act2 a).qf ∧ ¬(a.fact = 4 ∨ a.fact = 5 ∨ a.fact = 6)) ∨ ((((c.act1 a).act2 a).act3 a).qt = [] ∧ (((c.act1 a).act2 a).act3 a).po = 0 ∧ (((c.act1 a).act2 a).act3 a).pl = 0 ∧ (((c.act1 a).act2 a).act3 a).pL = [] ∧ (a.fact = 4 ∨ a.fact = 5 ∨ a.fact = 6)) := by
  generalize (c.act1 a).act2 a = d;unfold Core.act3;by_cases q2 : a.fact = 2
  ·rw [if_pos q2]; exact .inl ⟨rfl, rfl, rfl, rfl, rfl, by omega⟩
  rw [if_neg q2];by_cases q1 : a.fact = 1
  ·rw [if_pos q1]; exact .inl ⟨rfl, rfl, rfl, rfl, rfl, by omega⟩
  rw [if_neg q1];by_cases q4 : a.fact = 4 ∨ a.fact = 5
  ·rw [if_pos q4]; exact .inr ⟨rfl, rfl, rfl, rfl, by omega⟩
  rw [if_neg q4];by_cases q6 : a.fact = 6
  ·rw [if_pos q6]; exact .inr ⟨rfl, rfl, rfl, rfl, by omega⟩
  ·rw [if_neg q6]; exact .inl ⟨rfl, rfl, rfl, rfl, rfl, by omega⟩
 obtain ⟨a1, a2, a3, a4, a5⟩ := h2 (c.act1 a);obtain ⟨b1, b2, b3, b4, b5⟩ := h1 c;rcases e with ⟨e1, e2, e3, e4, e5, e6⟩ | e
 ·exact .inl ⟨e1.trans (a1.trans b1), e2.trans (a2.trans b2), e3.trans (a3.trans b3), e4.trans (a4.trans b4), e5.trans (a5.trans b5), e6⟩
 ·exact .inr e
theorem xGj (l : LSt) (n2 : Int) : ((l.fin n2).st = 1 ∨ (l.fin n2).st = 5) ∧ (l.fin n2).listens = false := by
 unfold LSt.fin;split
 ·exact ⟨.inl rfl, rfl⟩
 ·rename_i h;refine ⟨?_, rfl⟩;show l.st = 1 ∨ l.st = 5;omega
theorem xGk (l : LSt) (n2 : Int) (h0 : 0 ≤ l.tries) (h1 : l.tries ≤ 255) (h2 : l.most ≤ 255) : 0 ≤ (l.fin n2).tries ∧ (l.fin n2).tries ≤ 255 ∧ (l.fin n2).most ≤ 255 := by
 unfold LSt.fin;split
 ·exact ⟨by show (0 : Int) ≤ 0; omega, by show (0 : Int) ≤ 255; omega, by show zFG n2 ≤ 255; unfold zFG; omega⟩
 ·exact ⟨h0, h1, h2⟩
theorem zGY {c : Core} {a : LAct} {l' : LSt} {st : Int} (h : LkI c) (hl : LaOk c.l a l') (hs : ¬(a.fact = 1 ∨ a.fact = 2 ∨ a.fact = 4 ∨ a.fact = 5 ∨ a.fact = 6) → LkS st l'.st c.l.listens) (hf : a.fact = 1 ∨ a.fact = 2 → l'.st = 3) :
  LkI (({ c with st := st, l := c.l.mv l' } : Core).act a) := by
 have e : ∀ x : Core, x.imm (x.act a) := fun x => x.act_imm a;obtain ⟨i1, i2, i3, i4⟩ := e ({ c with st := st, l := c.l.mv l' } : Core)
 obtain ⟨f1, f2⟩ := zT7 ({ c with st := st, l := c.l.mv l' } : Core) a h.dl h.says h.asks hl.kind
 obtain ⟨l1, l2⟩ := xAg ({ c with st := st, l := c.l.mv l' } : Core) a h.lf0 h.lf1 h.t10 h.t11
 have n := xGk (c.l.mv l') c.n2 hl.tr0 hl.tr1 h.mo1;have s := xGj (c.l.mv l') c.n2;have es := zOB ({ c with st := st, l := c.l.mv l' } : Core) a
 have el := xIA ({ c with st := st, l := c.l.mv l' } : Core) a
 have els : (c.l.mv l').st = l'.st := rfl;have ell : (c.l.mv l').listens = c.l.listens := rfl;refine ⟨?_, ?_, ?_, ?_, l1, l2, by rw [i2]; exact h.t10, by rw [i2]; exact h.t11, by rw [i4]; exact h.dl, f1, f2⟩
 ·rw [es, el];by_cases q1 : a.fact = 1 ∨ a.fact = 2
  ·rw [if_pos q1, if_neg (by omega)]
   exact .inr (.inr (.inl ⟨rfl, hf q1⟩))
  ·rw [if_neg q1];by_cases q4 : a.fact = 4 ∨ a.fact = 5
   ·rw [if_pos q4, if_pos (by omega)]
    exact .inr (.inr (.inr (.inr ⟨.inl rfl, s⟩)))
   ·rw [if_neg q4];by_cases q6 : a.fact = 6
    ·rw [if_pos q6, if_pos (by omega)]
     exact .inr (.inr (.inr (.inr ⟨.inr rfl, s⟩)))
    ·rw [if_neg q6, if_neg (by omega)]
     exact hs (by omega)
 ·rw [el]; split
  ·exact n.1
  ·exact hl.tr0
 ·rw [el]; split
  ·exact n.2.1
  ·exact hl.tr1
 ·rw [el]; split
  ·exact n.2.2
  ·exact h.mo1
theorem zHV {c : Core} {a : LAct} {l' : LSt} {st : Int} (hst : 4 ≤ c.st → 4 ≤ st ∧ ¬(a.fact = 1 ∨ a.fact = 2)) (h3 : c.st = 3 → st = 3) : Mv c (({ c with st := st, l := c.l.mv l' } : Core).act a) := by
 obtain ⟨i1, _⟩ := Core.act_imm ({ c with st := st, l := c.l.mv l' } : Core) a
 have es := zOB ({ c with st := st, l := c.l.mv l' } : Core) a
 refine ⟨?_, fun h4 => ?_, i1⟩
 ·rcases xI9 ({ c with st := st, l := c.l.mv l' } : Core) a with ⟨a1, a2, a3, a4, a5, a6⟩ | ⟨a1, a2, a3, a4, a5⟩
  ·refine .inl ⟨a1, a2, a3, a4, a5, fun q => ?_⟩;rw [es];by_cases q1 : a.fact = 1 ∨ a.fact = 2
   ·rw [if_pos q1]
   ·rw [if_neg q1, if_neg (by omega), if_neg (by omega)]; exact h3 q
  ·refine .inr ⟨a1, a2, a3, a4, ?_⟩;rw [es];by_cases q1 : a.fact = 1 ∨ a.fact = 2
   ·omega
   ·rw [if_neg q1];by_cases q4 : a.fact = 4 ∨ a.fact = 5
    ·rw [if_pos q4]; omega
    ·rw [if_neg q4, if_pos (by omega)]; omega
 ·obtain ⟨k1, k2⟩ := hst h4;rw [es, if_neg k2];split
  ·omega
  ·split
   ·omega
   ·exact k1
inductive LH (l : LSt) : LAct → LSt → Prop
 | same (a : LAct) (hk : a.kind = 0 ∨ (1 ≤ a.kind ∧ a.kind ≤ 4)) (hf : a.fact = 0 ∨ a.fact = 3) : LH l a l
 | up1 (a : LAct) (hk : a.kind = 0 ∨ (1 ≤ a.kind ∧ a.kind ≤ 4)) (hf : a.fact = 1) (hs : l.st = 2) : LH l a { l with st := 3 }
 | up2 (a : LAct) (hk : a.kind = 0 ∨ (1 ≤ a.kind ∧ a.kind ≤ 4)) (hf : a.fact = 2) (hs : l.st = 1 ∨ l.st = 5) (hl : l.listens = true) : LH l a { l with st := 3 }
 | down (a : LAct) (hk : a.kind = 0 ∨ (1 ≤ a.kind ∧ a.kind ≤ 4)) (hf : a.fact = 4 ∨ a.fact = 5) : LH l a { l with st := 1 }
theorem kd2 : (2 : Int) = 0 ∨ (1 ≤ (2 : Int) ∧ (2 : Int) ≤ 4) := by omega
theorem kd3 : (3 : Int) = 0 ∨ (1 ≤ (3 : Int) ∧ (3 : Int) ≤ 4) := by omega
theorem kdx {x : Int} (h : x = 0 ∨ x = 3) : x = 0 ∨ (1 ≤ x ∧ x ≤ 4) := by omega
theorem xG3 (l : LSt) (k x : Int) (hx : x = 0 ∨ x = 3) : LH l (l.cmd k x).1 (l.cmd k x).2 := by
 unfold LSt.cmd;by_cases a1 : l.st = 1 ∨ l.st = 5
 ·rw [if_pos a1];by_cases b : k = 1 ∧ l.listens = true
  ·rw [if_pos b]; exact .up2 _ kd2 rfl a1 b.2
  ·rw [if_neg b]; exact .same _ (kdx hx) (.inl rfl)
 rw [if_neg a1];by_cases a2 : l.st = 2
 ·rw [if_pos a2];by_cases b : k = 1
  ·rw [if_pos b]; exact .same _ kd2 (.inl rfl)
  rw [if_neg b];by_cases b4 : k = 4
  ·rw [if_pos b4]; exact .down _ kd3 (.inl rfl)
  ·rw [if_neg b4]; exact .same _ (.inl rfl) (.inl rfl)
 rw [if_neg a2];by_cases a3 : l.st = 3
 ·rw [if_pos a3];by_cases b : k = 1
  ·rw [if_pos b]; exact .same _ kd2 (.inr rfl)
  rw [if_neg b];by_cases b4 : k = 4
  ·rw [if_pos b4]; exact .down _ kd2 (.inr rfl)
  ·rw [if_neg b4]; exact .same _ (.inl rfl) (.inl rfl)
 rw [if_neg a3];by_cases a4 : l.st = 4
 ·rw [if_pos a4];by_cases b : k = 1
  ·rw [if_pos b]; exact .same _ kd3 (.inl rfl)
  rw [if_neg b];by_cases b4 : k = 4
  ·rw [if_pos b4]; exact .same _ kd2 (.inl rfl)
  ·rw [if_neg b4]; exact .same _ (.inl rfl) (.inl rfl)
 rw [if_neg a4]; exact .same _ (.inl rfl) (.inl rfl)
theorem xFv (l : LSt) (k : Int) : LH l (l.rsp k).1 (l.rsp k).2 := by
 unfold LSt.rsp
 repeat' (first | exact .same _ (.inl rfl) (.inl rfl) | (exact .up1 _ (.inl rfl) rfl (by assumption)) | exact .down _ (.inl rfl) (.inl rfl) | exact .down _ (.inl rfl) (.inr rfl) | split)
theorem LH.pf {l : LSt} {a : LAct} {l' : LSt} (h : LH l a l') (b : Bool) : LH l { a with pf := b } l' := by
 cases h with
 | same hk hf => exact .same _ hk hf
 | up1 hk hf hs => exact .up1 _ hk hf hs
 | up2 hk hf hs hl => exact .up2 _ hk hf hs hl
 | down hk hf => exact .down _ hk hf
theorem xD2 (l : LSt) (k : Int) (pf cmd : Bool) : LH l (l.hear k pf cmd).1 (l.hear k pf cmd).2 := by
 unfold LSt.hear;split
 ·exact .same _ (.inl rfl) (.inl rfl)
 split
 ·refine LH.pf (xG3 l k _ ?_) _;split
  ·exact .inr rfl
  ·exact .inl rfl
 split
 ·exact .same _ (.inl rfl) (.inl rfl)
 split
 ·exact .down _ (.inl rfl) (.inr rfl)
 split
 ·exact xFv l k
 ·exact .same _ (.inl rfl) (.inl rfl)
theorem zW7 {c : Core} (h : LkI c) (k : Int) (pf cmd : Bool) : LkI (c.linked k pf cmd) ∧ Mv c (c.linked k pf cmd) ∧ ((c.linked k pf cmd).st = 6 → c.st = 6) := by
 have hs := h.s;have hr := xD2 c.l k pf cmd;unfold Core.linked;generalize c.l.hear k pf cmd = r at hr ⊢;obtain ⟨a, l'⟩ := r;have hst : ({ c with l := c.l.mv l' } : Core) = { c with st := c.st, l := c.l.mv l' } := rfl
 have e6 := zOB ({ c with l := c.l.mv l' } : Core) a
 have h0 := h.tr0; have h1 := h.tr1;simp only at hr ⊢;cases hr with
 | same hk hf =>
  refine ⟨zGY h ⟨rfl, rfl, h0, h1, hk⟩ (fun _ => hs) (fun q => by omega), zHV (fun q => ⟨q, by omega⟩) (fun q => q), fun q => ?_⟩
  rw [e6, if_neg (by omega), if_neg (by omega), if_neg (by omega)] at q; exact q
 | up1 hk hf hs2 =>
  refine ⟨zGY h ⟨rfl, rfl, h0, h1, hk⟩ (fun q => by omega) (fun _ => rfl), zHV (fun q => ?_) (fun q => q), fun q => ?_⟩
  ·exfalso; unfold LkS at hs; omega
  ·rw [e6, if_pos (.inl hf)] at q; omega
 | up2 hk hf hs2 hl2 =>
  refine ⟨zGY h ⟨rfl, rfl, h0, h1, hk⟩ (fun q => by omega) (fun _ => rfl), zHV (fun q => ?_) (fun q => q), fun q => ?_⟩
  ·exfalso;unfold LkS at hs;rcases hs with hs | hs | hs | hs | ⟨_, _, hs⟩
   ·omega
   ·omega
   ·omega
   ·omega
   ·rw [hl2] at hs; cases hs
  ·rw [e6, if_pos (.inr hf)] at q; omega
 | down hk hf =>
  refine ⟨zGY h ⟨rfl, rfl, h0, h1, hk⟩ (fun q => by omega) (fun q => by omega), zHV (fun q => ⟨q, by omega⟩) (fun q => q), fun q => ?_⟩
  rw [e6, if_neg (by omega), if_pos hf] at q; omega
theorem zRw {c d : Core} (h : c.imm d) : c.mv d = d := by
 obtain ⟨h1, h2, h3, h4⟩ := h;cases d;simp only at h1 h2 h3 h4;subst h1; subst h2; subst h3; subst h4;rfl
theorem Core.imm.trans {a b c : Core} (h : a.imm b) (k : b.imm c) : a.imm c := ⟨k.1.trans h.1, k.2.1.trans h.2.1, k.2.2.1.trans h.2.2.1, k.2.2.2.trans h.2.2.2⟩
theorem zWD (c : Core) (k : Int) (pf cmd : Bool) : c.mv (c.linked k pf cmd) = c.linked k pf cmd := zRw (Core.act_imm ({ c with l := c.l.mv (c.l.hear k pf cmd).2 } : Core) _)
theorem zOg {c : Core} (h : LkI c) {st : Int} (hst : st = 5 ∨ st = 6) : LkI (c.fin st) ∧ Mv c (c.fin st) := by
 have n := xGk c.l c.n2 h.tr0 h.tr1 h.mo1;refine ⟨⟨.inr (.inr (.inr (.inr ⟨hst, xGj c.l c.n2⟩))), n.1, n.2.1, n.2.2, by show (0 : Int) ≤ 0; omega, by show (0 : Int) ≤ 255; omega, h.t10, h.t11, h.dl, h.says, .inl rfl⟩, ⟨.inr ⟨rfl, rfl, rfl, rfl, ?_⟩, fun _ => ?_, rfl⟩⟩
 ·show 4 ≤ st;omega
 ·show 4 ≤ st;omega
theorem zI7 (k : Int) (h : 1 ≤ k ∧ k ≤ 4) : (LAct.says k).kind = 0 ∨ (1 ≤ (LAct.says k).kind ∧ (LAct.says k).kind ≤ 4) := .inr h
theorem zWi {c : Core} (h : LkI c) : LkI c.open_.2 ∧ Mv c c.open_.2 := by
 have hs := h.s;unfold Core.open_;split
 ·exact ⟨h, ⟨.inl ⟨rfl, rfl, rfl, rfl, rfl, fun q => q⟩, fun q => q, rfl⟩⟩
 ·rename_i h1;have h1 : c.st = 1 := by omega
  have hl : c.l.st = 1 := by unfold LkS at hs; omega
  have e : c.l.open_ = (LAct.says 1, { c.l with st := 2, tries := 0 }) := by unfold LSt.open_; rw [if_pos (.inl hl)]
  rw [e];refine ⟨zGY (c := c) (a := LAct.says 1) (l' := { c.l with st := 2, tries := 0 }) (st := 2) h ⟨rfl, rfl, Int.le_refl _, by show (0 : Int) ≤ 255; omega, zI7 1 (by omega)⟩ (fun _ => .inr (.inl ⟨rfl, rfl⟩)) (fun q => ?_), zHV (c := c) (a := LAct.says 1) (l' := { c.l with st := 2, tries := 0 }) (st := 2) (fun q => by omega) (fun q => by omega)⟩
  have : (0 : Int) = 1 ∨ (0 : Int) = 2 := q;omega
theorem zTr {c : Core} (h : LkI c) : LkI c.forget := ⟨h.s, h.tr0, h.tr1, h.mo1, h.lf0, h.lf1, h.t10, h.t11, h.dl, h.says, h.asks⟩
theorem zRZ {c : Core} (h : LkI c) : LkI c.close.2 ∧ Mv c c.close.2 := by
 have hs := h.s;unfold Core.close;split
 ·exact zOg h (.inl rfl)
 split
 ·rename_i h1 h2;have hl : c.l.st = 2 ∨ c.l.st = 3 := by unfold LkS at hs; omega
  have e : c.l.close = (LAct.says 4, { c.l with st := 4, tries := 0 }) := by unfold LSt.close; rw [if_pos hl]
  rw [e];have a := zGY (c := c) (a := LAct.says 4) (l' := { c.l with st := 4, tries := 0 }) (st := 4) h ⟨rfl, rfl, Int.le_refl _, by show (0 : Int) ≤ 255; omega, zI7 4 (by omega)⟩ (fun _ => .inr (.inr (.inr (.inl ⟨rfl, rfl⟩)))) (fun q => by
   have : (0 : Int) = 1 ∨ (0 : Int) = 2 := q
   omega)
  refine ⟨zTr a, ⟨.inr ⟨rfl, rfl, rfl, rfl, ?_⟩, fun q => ?_, ?_⟩⟩
  ·show 4 ≤ (({ c with st := 4, l := c.l.mv { c.l with st := 4, tries := 0 } } : Core).act (LAct.says 4)).st
   rw [zOB, if_neg (by show ¬((0 : Int) = 1 ∨ (0 : Int) = 2); omega), if_neg (by show ¬((0 : Int) = 4 ∨ (0 : Int) = 5); omega), if_neg (by show ¬(0 : Int) = 6; omega)]
   show (4 : Int) ≤ 4;omega
  ·show 4 ≤ (({ c with st := 4, l := c.l.mv { c.l with st := 4, tries := 0 } } : Core).act (LAct.says 4)).st
   rw [zOB, if_neg (by show ¬((0 : Int) = 1 ∨ (0 : Int) = 2); omega), if_neg (by show ¬((0 : Int) = 4 ∨ (0 : Int) = 5); omega), if_neg (by show ¬(0 : Int) = 6; omega)]
   show (4 : Int) ≤ 4;omega
  ·show (({ c with st := 4, l := c.l.mv { c.l with st := 4, tries := 0 } } : Core).act (LAct.says 4)).qr = c.qr
   exact Core.act_qr _ _
 ·exact ⟨h, ⟨.inl ⟨rfl, rfl, rfl, rfl, rfl, fun q => q⟩, fun q => q, rfl⟩⟩
theorem xGp {c : Core} (h : LkI c) : LkI (({ c with l := c.l.mv c.l.due.2 } : Core).act c.l.due.1) ∧ Mv c (({ c with l := c.l.mv c.l.due.2 } : Core).act c.l.due.1) := by
 have hs := h.s;have ag : ∀ k : Int, 1 ≤ k ∧ k ≤ 4 → LkI (({ c with l := c.l.mv (c.l.again k).2 } : Core).act (c.l.again k).1) ∧ Mv c (({ c with l := c.l.mv (c.l.again k).2 } : Core).act (c.l.again k).1) := fun k hk => by
  unfold LSt.again;split
  ·exact ⟨zGY (st := c.st) h ⟨rfl, rfl, h.tr0, h.tr1, .inl rfl⟩ (fun q => absurd (show (6 : Int) = 1 ∨ (6 : Int) = 2 ∨ (6 : Int) = 4 ∨ (6 : Int) = 5 ∨ (6 : Int) = 6 by omega) q) (fun q => by
    have : (6 : Int) = 1 ∨ (6 : Int) = 2 := q
    omega), zHV (st := c.st) (fun q => ⟨q, by show ¬((6 : Int) = 1 ∨ (6 : Int) = 2); omega⟩) (fun q => q)⟩
  ·rename_i hm;refine ⟨zGY (st := c.st) h ⟨rfl, rfl, ?_, ?_, zI7 k hk⟩ (fun _ => hs) (fun q => by
    have : (0 : Int) = 1 ∨ (0 : Int) = 2 := q
    omega), zHV (st := c.st) (fun q => ⟨q, by show ¬((0 : Int) = 1 ∨ (0 : Int) = 2); omega⟩) (fun q => q)⟩
   ·show 0 ≤ c.l.tries + 1;have := h.tr0; omega
   ·show c.l.tries + 1 ≤ 255;have := h.mo1; omega
 unfold LSt.due;split
 ·exact ag 1 (by omega)
 split
 ·exact ag 4 (by omega)
 ·exact ⟨zGY (st := c.st) h ⟨rfl, rfl, h.tr0, h.tr1, .inl rfl⟩ (fun _ => hs) (fun q => by
   have : (0 : Int) = 1 ∨ (0 : Int) = 2 := q
   omega), zHV (st := c.st) (fun q => ⟨q, by show ¬((0 : Int) = 1 ∨ (0 : Int) = 2); omega⟩) (fun q => q)⟩
theorem zZM {c : Core} (h : LkI c) : LkI c.tick ∧ Mv c c.tick ∧ c.imm c.tick := by
 unfold Core.tick;have l0 := h.lf0; have l1 := h.lf1;have ew : IntKind.i64.wrap (c.left - 1) = c.left - 1 := i64wrap (by omega) (by omega)
 split
 ·rw [ew];have hd : LkI ({ c with left := c.left - 1 } : Core) := ⟨h.s, h.tr0, h.tr1, h.mo1, by show 0 ≤ c.left - 1; omega, by show c.left - 1 ≤ 255; omega, h.t10, h.t11, h.dl, h.says, h.asks⟩
  split
  ·obtain ⟨q1, q2⟩ := xGp hd;have im := Core.act_imm ({ c with left := c.left - 1, l := c.l.mv c.l.due.2 } : Core) c.l.due.1
   have e : c.mv (({ c with left := c.left - 1, l := c.l.mv c.l.due.2 } : Core).act c.l.due.1) = ({ c with left := c.left - 1, l := c.l.mv c.l.due.2 } : Core).act c.l.due.1 := zRw im
   rw [e];exact ⟨q1, ⟨q2.q, q2.up, q2.qr⟩, im⟩
  ·exact ⟨hd, ⟨.inl ⟨rfl, rfl, rfl, rfl, rfl, fun q => q⟩, fun q => q, rfl⟩, rfl, rfl, rfl, rfl⟩
 ·exact ⟨h, ⟨.inl ⟨rfl, rfl, rfl, rfl, rfl, fun q => q⟩, fun q => q, rfl⟩, rfl, rfl, rfl, rfl⟩
end Go.Proofs.YtenkabjkgngcdaaGreat.Ab
