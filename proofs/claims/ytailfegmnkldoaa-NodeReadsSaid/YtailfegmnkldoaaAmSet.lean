/- THE RULES OF A WALK, put together. No condition. -/
import Derived.Test.YtailfegmnkldoaaAmRng
set_option linter.unusedSimpArgs false
set_option linter.unusedVariables false
set_option linter.unusedSectionVars false
namespace Go.Am
open Go
set_option maxRecDepth 10000
theorem wk1 : ((((((∀ {cb : CB} {rd : Option Nat} {n : Nat} {Q : KP} {E : Env} {df : List ADf} {H : Heap} {e : Ex}, Ret cb rd n Q [] e E df H = Q e E df H) ∧
  (∀ {cb : CB} {rd : Option Nat} {n : Nat} {Q : KP} {ks : List Kt} {E : Env} {df : List ADf} {H : Heap}, Ret cb rd n Q (.code .skip :: ks) .normal E df H = Ret cb rd n Q ks .normal E df H)) ∧
  ((∀ {cb : CB} {rd : Option Nat} {n : Nat} {Q : KP} {ks : List Kt} {E : Env} {df : List ADf} {H : Heap} {l : Nat}, Ret cb rd n Q (.code (.label l) :: ks) .normal E df H = Ret cb rd n Q ks .normal E df H) ∧
  ((∀ {cb : CB} {rd : Option Nat} {n : Nat} {Q : KP} {ks : List Kt} {E : Env} {df : List ADf} {H : Heap} {id : Nat}, Ret cb rd n Q (.code (.exit id) :: ks) .normal E df H = Ret cb rd n Q ks (.exit id) E df H) ∧
  (∀ {cb : CB} {rd : Option Nat} {n : Nat} {Q : KP} {ks : List Kt} {E : Env} {df : List ADf} {H : Heap} {l : Nat}, Ret cb rd n Q (.code (.goto l) :: ks) .normal E df H = Ret cb rd n Q ks (.goto l) E df H)))) ∧
  (((∀ {cb : CB} {rd : Option Nat} {n : Nat} {Q : KP} {ks : List Kt} {E : Env} {df : List ADf} {H : Heap}, Ret cb rd n Q (.code .ret :: ks) .normal E df H = Ret cb rd n Q ks .ret E df H) ∧
  (∀ {cb : CB} {rd : Option Nat} {n : Nat} {Q : KP} {ks : List Kt} {E : Env} {df : List ADf} {H : Heap} {ops : List AOper}, Ret cb rd n Q (.code (.region ops) :: ks) .normal E df H = RR cb rd n Q ops ks E df H)) ∧
  ((∀ {cb : CB} {rd : Option Nat} {n : Nat} {Q : KP} {ks : List Kt} {E : Env} {df : List ADf} {H : Heap} {a b : ACode}, Ret cb rd n Q (.code (.seq a b) :: ks) .normal E df H = Ret cb rd n Q (.code a :: .code b :: ks) .normal E df H) ∧
  ((∀ {cb : CB} {rd : Option Nat} {n : Nat} {Q : KP} {ks : List Kt} {E : Env} {df : List ADf} {H : Heap} {a : ACode} {id : Nat}, Ret cb rd n Q (.code (.block id a) :: ks) .normal E df H = Ret cb rd n Q (.code a :: .blk id :: ks) .normal E df H) ∧
  (∀ {cb : CB} {rd : Option Nat} {n : Nat} {Q : KP} {ks : List Kt} {E : Env} {df : List ADf} {H : Heap} {a : ACode}, Ret cb rd n Q (.code (.scope a) :: ks) .normal E df H = Ret cb rd n Q (.code a :: .scp a :: ks) .normal E df H))))) ∧
  ((((∀ {cb : CB} {rd : Option Nat} {n : Nat} {Q : KP} {ks : List Kt} {E : Env} {df : List ADf} {H : Heap} {w a : ACode}, Ret cb rd n Q (.code (.inscope w a) :: ks) .normal E df H = Ret cb rd n Q (.code a :: .scp w :: ks) .normal E df H) ∧
  (∀ {cb : CB} {rd : Option Nat} {n : Nat} {Q : KP} {ks : List Kt} {E : Env} {df : List ADf} {H : Heap} {x : X} {a b : ACode}, Ret cb rd n Q (.code (.cond x a b) :: ks) .normal E df H = CondK (x.evE E) a b cb rd n Q ks E df H)) ∧
  ((∀ {cb : CB} {rd : Option Nat} {n : Nat} {Q : KP} {ks : List Kt} {E : Env} {df : List ADf} {H : Heap} {pre tail : List AOper}, Ret cb rd n Q (.code (.drawn pre tail) :: ks) .normal E df H = RP cb rd n Q pre tail [] ks E df H) ∧
  ((∀ {cb : CB} {rd : Option Nat} {n : Nat} {Q : KP} {ks : List Kt} {E : Env} {df : List ADf} {H : Heap} {a b : ACode}, CondK (.bool true) a b cb rd n Q ks E df H = Ret cb rd n Q (.code a :: ks) .normal E df H) ∧
  (∀ {cb : CB} {rd : Option Nat} {n : Nat} {Q : KP} {ks : List Kt} {E : Env} {df : List ADf} {H : Heap} {a b : ACode}, CondK (.bool false) a b cb rd n Q ks E df H = Ret cb rd n Q (.code b :: ks) .normal E df H)))) ∧
  (((∀ {cb : CB} {rd : Option Nat} {n : Nat} {Q : KP} {ks : List Kt} {E : Env} {df : List ADf} {H : Heap} {p : Prop} [Decidable p] {a b : ACode} (h : p), CondK (.bool (decide p)) a b cb rd n Q ks E df H = Ret cb rd n Q (.code a :: ks) .normal E df H) ∧
  (∀ {cb : CB} {rd : Option Nat} {n : Nat} {Q : KP} {ks : List Kt} {E : Env} {df : List ADf} {H : Heap} {p : Prop} [Decidable p] {a b : ACode} (h : ¬ p), CondK (.bool (decide p)) a b cb rd n Q ks E df H = Ret cb rd n Q (.code b :: ks) .normal E df H)) ∧
  ((∀ {cb : CB} {rd : Option Nat} {n : Nat} {Q : KP} {ks : List Kt} {E : Env} {df : List ADf} {H : Heap} {c : ACode} {j : Nat}, Ret cb rd n Q (.code c :: ks) (.exit j) E df H = Ret cb rd n Q ks (.exit j) E df H) ∧
  ((∀ {cb : CB} {rd : Option Nat} {n : Nat} {Q : KP} {ks : List Kt} {E : Env} {df : List ADf} {H : Heap} {c : ACode} {j : Nat}, Ret cb rd n Q (.code c :: ks) (.goto j) E df H = Ret cb rd n Q ks (.goto j) E df H) ∧
  (∀ {cb : CB} {rd : Option Nat} {n : Nat} {Q : KP} {ks : List Kt} {E : Env} {df : List ADf} {H : Heap} {c : ACode}, Ret cb rd n Q (.code c :: ks) .ret E df H = Ret cb rd n Q ks .ret E df H)))))) ∧
  (((((∀ {cb : CB} {rd : Option Nat} {n : Nat} {Q : KP} {ks : List Kt} {E : Env} {df : List ADf} {H : Heap} {c : ACode} {p : List (AV × Bool)}, Ret cb rd n Q (.code c :: ks) (.panic p) E df H = Ret cb rd n Q ks (.panic p) E df H) ∧
  (∀ {cb : CB} {rd : Option Nat} {n : Nat} {Q : KP} {ks : List Kt} {E : Env} {df : List ADf} {H : Heap} {c : ACode} {j : Nat}, Ret cb rd n Q (.again c :: ks) (.exit j) E df H = Ret cb rd n Q ks (.exit j) E df H)) ∧
  ((∀ {cb : CB} {rd : Option Nat} {n : Nat} {Q : KP} {ks : List Kt} {E : Env} {df : List ADf} {H : Heap} {c : ACode} {j : Nat}, Ret cb rd n Q (.again c :: ks) (.goto j) E df H = Ret cb rd n Q ks (.goto j) E df H) ∧
  ((∀ {cb : CB} {rd : Option Nat} {n : Nat} {Q : KP} {ks : List Kt} {E : Env} {df : List ADf} {H : Heap} {c : ACode}, Ret cb rd n Q (.again c :: ks) .ret E df H = Ret cb rd n Q ks .ret E df H) ∧
  (∀ {cb : CB} {rd : Option Nat} {n : Nat} {Q : KP} {ks : List Kt} {E : Env} {df : List ADf} {H : Heap} {c : ACode} {p : List (AV × Bool)}, Ret cb rd n Q (.again c :: ks) (.panic p) E df H = Ret cb rd n Q ks (.panic p) E df H)))) ∧
  (((∀ {cb : CB} {rd : Option Nat} {n : Nat} {Q : KP} {ks : List Kt} {E : Env} {df : List ADf} {H : Heap} {id : Nat}, Ret cb rd n Q (.blk id :: ks) .normal E df H = Ret cb rd n Q ks .normal E df H) ∧
  (∀ {cb : CB} {rd : Option Nat} {n : Nat} {Q : KP} {ks : List Kt} {E : Env} {df : List ADf} {H : Heap} {id j : Nat}, Ret cb rd n Q (.blk id :: ks) (.exit j) E df H = if j = id then Ret cb rd n Q ks .normal E df H else Ret cb rd n Q ks (.exit j) E df H)) ∧
  ((∀ {cb : CB} {rd : Option Nat} {n : Nat} {Q : KP} {ks : List Kt} {E : Env} {df : List ADf} {H : Heap} {id j : Nat}, Ret cb rd n Q (.blk id :: ks) (.goto j) E df H = Ret cb rd n Q ks (.goto j) E df H) ∧
  ((∀ {cb : CB} {rd : Option Nat} {n : Nat} {Q : KP} {ks : List Kt} {E : Env} {df : List ADf} {H : Heap} {id : Nat}, Ret cb rd n Q (.blk id :: ks) .ret E df H = Ret cb rd n Q ks .ret E df H) ∧
  (∀ {cb : CB} {rd : Option Nat} {n : Nat} {Q : KP} {ks : List Kt} {E : Env} {df : List ADf} {H : Heap} {id : Nat} {p : List (AV × Bool)}, Ret cb rd n Q (.blk id :: ks) (.panic p) E df H = Ret cb rd n Q ks (.panic p) E df H))))) ∧
  ((((∀ {cb : CB} {rd : Option Nat} {n : Nat} {Q : KP} {ks : List Kt} {E : Env} {df : List ADf} {H : Heap} {w : ACode}, Ret cb rd n Q (.scp w :: ks) .normal E df H = Ret cb rd n Q ks .normal E df H) ∧
  (∀ {cb : CB} {rd : Option Nat} {n : Nat} {Q : KP} {ks : List Kt} {E : Env} {df : List ADf} {H : Heap} {w : ACode} {j : Nat}, Ret cb rd n Q (.scp w :: ks) (.exit j) E df H = Ret cb rd n Q ks (.exit j) E df H)) ∧
  ((∀ {cb : CB} {rd : Option Nat} {n : Nat} {Q : KP} {ks : List Kt} {E : Env} {df : List ADf} {H : Heap} {w : ACode}, Ret cb rd n Q (.scp w :: ks) .ret E df H = Ret cb rd n Q ks .ret E df H) ∧
  ((∀ {cb : CB} {rd : Option Nat} {n : Nat} {Q : KP} {ks : List Kt} {E : Env} {df : List ADf} {H : Heap} {w : ACode} {p : List (AV × Bool)}, Ret cb rd n Q (.scp w :: ks) (.panic p) E df H = Ret cb rd n Q ks (.panic p) E df H) ∧
  (∀ {cb : CB} {rd : Option Nat} {n : Nat} {Q : KP} {ks : List Kt} {E : Env} {df : List ADf} {H : Heap}, RR cb rd n Q [] ks E df H = Ret cb rd n Q ks .normal E df H)))) ∧
  (((∀ {cb : CB} {rd : Option Nat} {n : Nat} {Q : KP} {ks : List Kt} {E : Env} {df : List ADf} {H : Heap} {x : X} {d : Option Nat} {rest : List AOper}, RR cb rd n Q (⟨d, .mv x, none⟩ :: rest) ks E df H = RunV (avalE (.mv x) E H) d rest cb rd n Q ks E df H) ∧
  (∀ {cb : CB} {rd : Option Nat} {n : Nat} {Q : KP} {ks : List Kt} {E : Env} {df : List ADf} {H : Heap} {c : X} {a : X} {b : X} {d : Option Nat} {rest : List AOper}, RR cb rd n Q (⟨d, .pick c a b, none⟩ :: rest) ks E df H = RunV (avalE (.pick c a b) E H) d rest cb rd n Q ks E df H)) ∧
  ((∀ {cb : CB} {rd : Option Nat} {n : Nat} {Q : KP} {ks : List Kt} {E : Env} {df : List ADf} {H : Heap} {zs : List AV} {ps : List (Nat × Nat × X)} {d : Option Nat} {rest : List AOper}, RR cb rd n Q (⟨d, .build zs ps, none⟩ :: rest) ks E df H = RunV (avalE (.build zs ps) E H) d rest cb rd n Q ks E df H) ∧
  ((∀ {cb : CB} {rd : Option Nat} {n : Nat} {Q : KP} {ks : List Kt} {E : Env} {df : List ADf} {H : Heap} {sz : Nat} {len : Nat} {zs : List AV} {ps : List (Nat × Nat × X)} {d : Option Nat} {rest : List AOper}, RR cb rd n Q (⟨d, .bslice sz len zs ps, none⟩ :: rest) ks E df H = RunV (avalE (.bslice sz len zs ps) E H) d rest cb rd n Q ks E df H) ∧
  (∀ {cb : CB} {rd : Option Nat} {n : Nat} {Q : KP} {ks : List Kt} {E : Env} {df : List ADf} {H : Heap} {sz : Nat} {len : Nat} {zs : List AV} {ps : List (Nat × Nat × X)} {d : Option Nat} {rest : List AOper}, RR cb rd n Q (⟨d, .bsfull sz len zs ps, none⟩ :: rest) ks E df H = RunV (avalE (.bsfull sz len zs ps) E H) d rest cb rd n Q ks E df H))))))) :=
  ⟨⟨⟨⟨⟨(by intros; first | exact ret_nil | (apply ret_nil <;> assumption)),
  (by intros; first | exact ret_skip | (apply ret_skip <;> assumption))⟩,
  ⟨(by intros; first | exact ret_label | (apply ret_label <;> assumption)),
  ⟨(by intros; first | exact ret_exit | (apply ret_exit <;> assumption)),
  (by intros; first | exact ret_goto | (apply ret_goto <;> assumption))⟩⟩⟩,
  ⟨⟨(by intros; first | exact ret_ret | (apply ret_ret <;> assumption)),
  (by intros; first | exact ret_region | (apply ret_region <;> assumption))⟩,
  ⟨(by intros; first | exact ret_seq | (apply ret_seq <;> assumption)),
  ⟨(by intros; first | exact ret_block | (apply ret_block <;> assumption)),
  (by intros; first | exact ret_scope | (apply ret_scope <;> assumption))⟩⟩⟩⟩,
  ⟨⟨⟨(by intros; first | exact ret_inscope | (apply ret_inscope <;> assumption)),
  (by intros; first | exact ret_cond | (apply ret_cond <;> assumption))⟩,
  ⟨(by intros; first | exact ret_drawn | (apply ret_drawn <;> assumption)),
  ⟨(by intros; first | exact condK_true | (apply condK_true <;> assumption)),
  (by intros; first | exact condK_false | (apply condK_false <;> assumption))⟩⟩⟩,
  ⟨⟨(by intros; first | exact condK_dt | (apply condK_dt <;> assumption)),
  (by intros; first | exact condK_df | (apply condK_df <;> assumption))⟩,
  ⟨(by intros; first | exact ret_code_exit | (apply ret_code_exit <;> assumption)),
  ⟨(by intros; first | exact ret_code_goto | (apply ret_code_goto <;> assumption)),
  (by intros; first | exact ret_code_ret | (apply ret_code_ret <;> assumption))⟩⟩⟩⟩⟩,
  ⟨⟨⟨⟨(by intros; first | exact ret_code_panic | (apply ret_code_panic <;> assumption)),
  (by intros; first | exact ret_again_exit | (apply ret_again_exit <;> assumption))⟩,
  ⟨(by intros; first | exact ret_again_goto | (apply ret_again_goto <;> assumption)),
  ⟨(by intros; first | exact ret_again_ret | (apply ret_again_ret <;> assumption)),
  (by intros; first | exact ret_again_panic | (apply ret_again_panic <;> assumption))⟩⟩⟩,
  ⟨⟨(by intros; first | exact ret_blk_normal | (apply ret_blk_normal <;> assumption)),
  (by intros; first | exact ret_blk_exit | (apply ret_blk_exit <;> assumption))⟩,
  ⟨(by intros; first | exact ret_blk_goto | (apply ret_blk_goto <;> assumption)),
  ⟨(by intros; first | exact ret_blk_ret | (apply ret_blk_ret <;> assumption)),
  (by intros; first | exact ret_blk_panic | (apply ret_blk_panic <;> assumption))⟩⟩⟩⟩,
  ⟨⟨⟨(by intros; first | exact ret_scp_normal | (apply ret_scp_normal <;> assumption)),
  (by intros; first | exact ret_scp_exit | (apply ret_scp_exit <;> assumption))⟩,
  ⟨(by intros; first | exact ret_scp_ret | (apply ret_scp_ret <;> assumption)),
  ⟨(by intros; first | exact ret_scp_panic | (apply ret_scp_panic <;> assumption)),
  (by intros; first | exact rr_nil | (apply rr_nil <;> assumption))⟩⟩⟩,
  ⟨⟨(by intros; first | exact rr_mv | (apply rr_mv <;> assumption)),
  (by intros; first | exact rr_pick | (apply rr_pick <;> assumption))⟩,
  ⟨(by intros; first | exact rr_build | (apply rr_build <;> assumption)),
  ⟨(by intros; first | exact rr_bslice | (apply rr_bslice <;> assumption)),
  (by intros; first | exact rr_bsfull | (apply rr_bsfull <;> assumption))⟩⟩⟩⟩⟩⟩
theorem wk2 : ((((((∀ {cb : CB} {rd : Option Nat} {n : Nat} {Q : KP} {ks : List Kt} {E : Env} {df : List ADf} {H : Heap} {mx : Bool} {x : X} {y : X} {d : Option Nat} {rest : List AOper}, RR cb rd n Q (⟨d, .mm mx x y, none⟩ :: rest) ks E df H = RunV (avalE (.mm mx x y) E H) d rest cb rd n Q ks E df H) ∧
  (∀ {cb : CB} {rd : Option Nat} {n : Nat} {Q : KP} {ks : List Kt} {E : Env} {df : List ADf} {H : Heap} {sz : Nat} {ag : Bool} {x : X} {d : Option Nat} {rest : List AOper}, RR cb rd n Q (⟨d, .load sz ag x, none⟩ :: rest) ks E df H = RunV (avalE (.load sz ag x) E H) d rest cb rd n Q ks E df H)) ∧
  ((∀ {cb : CB} {rd : Option Nat} {n : Nat} {Q : KP} {ks : List Kt} {E : Env} {df : List ADf} {H : Heap} {off : Nat} {x : X} {d : Option Nat} {rest : List AOper}, RR cb rd n Q (⟨d, .fld off x, none⟩ :: rest) ks E df H = RunV (avalE (.fld off x) E H) d rest cb rd n Q ks E df H) ∧
  ((∀ {cb : CB} {rd : Option Nat} {n : Nat} {Q : KP} {ks : List Kt} {E : Env} {df : List ADf} {H : Heap} {off : Nat} {sz : Nat} {ag : Bool} {x : X} {d : Option Nat} {rest : List AOper}, RR cb rd n Q (⟨d, .part off sz ag x, none⟩ :: rest) ks E df H = RunV (avalE (.part off sz ag x) E H) d rest cb rd n Q ks E df H) ∧
  (∀ {cb : CB} {rd : Option Nat} {n : Nat} {Q : KP} {ks : List Kt} {E : Env} {df : List ADf} {H : Heap} {sz : Nat} {x : X} {i : X} {d : Option Nat} {rest : List AOper}, RR cb rd n Q (⟨d, .ixa sz x i, none⟩ :: rest) ks E df H = RunV (avalE (.ixa sz x i) E H) d rest cb rd n Q ks E df H)))) ∧
  (((∀ {cb : CB} {rd : Option Nat} {n : Nat} {Q : KP} {ks : List Kt} {E : Env} {df : List ADf} {H : Heap} {n0 : Nat} {sz : Nat} {x : X} {i : X} {d : Option Nat} {rest : List AOper}, RR cb rd n Q (⟨d, .ixarr n0 sz x i, none⟩ :: rest) ks E df H = RunV (avalE (.ixarr n0 sz x i) E H) d rest cb rd n Q ks E df H) ∧
  (∀ {cb : CB} {rd : Option Nat} {n : Nat} {Q : KP} {ks : List Kt} {E : Env} {df : List ADf} {H : Heap} {n0 : Nat} {sz : Nat} {ag : Bool} {x : X} {i : X} {d : Option Nat} {rest : List AOper}, RR cb rd n Q (⟨d, .ixv n0 sz ag x i, none⟩ :: rest) ks E df H = RunV (avalE (.ixv n0 sz ag x i) E H) d rest cb rd n Q ks E df H)) ∧
  ((∀ {cb : CB} {rd : Option Nat} {n : Nat} {Q : KP} {ks : List Kt} {E : Env} {df : List ADf} {H : Heap} {x : X} {i : X} {d : Option Nat} {rest : List AOper}, RR cb rd n Q (⟨d, .ixs x i, none⟩ :: rest) ks E df H = RunV (avalE (.ixs x i) E H) d rest cb rd n Q ks E df H) ∧
  ((∀ {cb : CB} {rd : Option Nat} {n : Nat} {Q : KP} {ks : List Kt} {E : Env} {df : List ADf} {H : Heap} {op : BinOp} {ek : EqK} {x : X} {y : X} {d : Option Nat} {rest : List AOper}, RR cb rd n Q (⟨d, .bin op ek x y, none⟩ :: rest) ks E df H = RunV (avalE (.bin op ek x y) E H) d rest cb rd n Q ks E df H) ∧
  (∀ {cb : CB} {rd : Option Nat} {n : Nat} {Q : KP} {ks : List Kt} {E : Env} {df : List ADf} {H : Heap} {uop : UnOp} {x : X} {d : Option Nat} {rest : List AOper}, RR cb rd n Q (⟨d, .un uop x, none⟩ :: rest) ks E df H = RunV (avalE (.un uop x) E H) d rest cb rd n Q ks E df H))))) ∧
  ((((∀ {cb : CB} {rd : Option Nat} {n : Nat} {Q : KP} {ks : List Kt} {E : Env} {df : List ADf} {H : Heap} {cv : CvK} {x : X} {d : Option Nat} {rest : List AOper}, RR cb rd n Q (⟨d, .conv cv x, none⟩ :: rest) ks E df H = RunV (avalE (.conv cv x) E H) d rest cb rd n Q ks E df H) ∧
  (∀ {cb : CB} {rd : Option Nat} {n : Nat} {Q : KP} {ks : List Kt} {E : Env} {df : List ADf} {H : Heap} {ty : TypeId} {x : X} {d : Option Nat} {rest : List AOper}, RR cb rd n Q (⟨d, .mkif ty x, none⟩ :: rest) ks E df H = RunV (avalE (.mkif ty x) E H) d rest cb rd n Q ks E df H)) ∧
  ((∀ {cb : CB} {rd : Option Nat} {n : Nat} {Q : KP} {ks : List Kt} {E : Env} {df : List ADf} {H : Heap} {f : FuncId} {xs : List X} {d : Option Nat} {rest : List AOper}, RR cb rd n Q (⟨d, .mkfn f xs, none⟩ :: rest) ks E df H = RunV (avalE (.mkfn f xs) E H) d rest cb rd n Q ks E df H) ∧
  ((∀ {cb : CB} {rd : Option Nat} {n : Nat} {Q : KP} {ks : List Kt} {E : Env} {df : List ADf} {H : Heap} {kk : Nat} {zero : AV} {x : X} {i : X} {ok : Bool} {d : Option Nat} {rest : List AOper}, RR cb rd n Q (⟨d, .lookup kk zero x i ok, none⟩ :: rest) ks E df H = RunV (avalE (.lookup kk zero x i ok) E H) d rest cb rd n Q ks E df H) ∧
  (∀ {cb : CB} {rd : Option Nat} {n : Nat} {Q : KP} {ks : List Kt} {E : Env} {df : List ADf} {H : Heap} {ty : TypeId} {zero : AV} {x : X} {ok : Bool} {d : Option Nat} {rest : List AOper}, RR cb rd n Q (⟨d, .tassert ty zero x ok, none⟩ :: rest) ks E df H = RunV (avalE (.tassert ty zero x ok) E H) d rest cb rd n Q ks E df H)))) ∧
  (((∀ {cb : CB} {rd : Option Nat} {n : Nat} {Q : KP} {ks : List Kt} {E : Env} {df : List ADf} {H : Heap} {x : X} {j : Nat} {d : Option Nat} {rest : List AOper}, RR cb rd n Q (⟨d, .ext x j, none⟩ :: rest) ks E df H = RunV (avalE (.ext x j) E H) d rest cb rd n Q ks E df H) ∧
  (∀ {cb : CB} {rd : Option Nat} {n : Nat} {Q : KP} {ks : List Kt} {E : Env} {df : List ADf} {H : Heap} {sz : Nat} {x : X} {lo : Option X} {hi : Option X} {d : Option Nat} {rest : List AOper}, RR cb rd n Q (⟨d, .slice sz x lo hi, none⟩ :: rest) ks E df H = RunV (avalE (.slice sz x lo hi) E H) d rest cb rd n Q ks E df H)) ∧
  ((∀ {cb : CB} {rd : Option Nat} {n : Nat} {Q : KP} {ks : List Kt} {E : Env} {df : List ADf} {H : Heap} {x : X} {lo : Option X} {hi : Option X} {d : Option Nat} {rest : List AOper}, RR cb rd n Q (⟨d, .slstr x lo hi, none⟩ :: rest) ks E df H = RunV (avalE (.slstr x lo hi) E H) d rest cb rd n Q ks E df H) ∧
  ((∀ {cb : CB} {rd : Option Nat} {n : Nat} {Q : KP} {ks : List Kt} {E : Env} {df : List ADf} {H : Heap} {sz : Nat} {x : X} {lo : Option X} {hi : Option X} {mx : Option X} {d : Option Nat} {rest : List AOper}, RR cb rd n Q (⟨d, .slc3 sz x lo hi mx, none⟩ :: rest) ks E df H = RunV (avalE (.slc3 sz x lo hi mx) E H) d rest cb rd n Q ks E df H) ∧
  (∀ {cb : CB} {rd : Option Nat} {n : Nat} {Q : KP} {ks : List Kt} {E : Env} {df : List ADf} {H : Heap} {k : Nat} {x : X} {d : Option Nat} {rest : List AOper}, RR cb rd n Q (⟨d, .len k x, none⟩ :: rest) ks E df H = RunV (avalE (.len k x) E H) d rest cb rd n Q ks E df H)))))) ∧
  (((((∀ {cb : CB} {rd : Option Nat} {n : Nat} {Q : KP} {ks : List Kt} {E : Env} {df : List ADf} {H : Heap} {x : X} {d : Option Nat} {rest : List AOper}, RR cb rd n Q (⟨d, .nilck x, none⟩ :: rest) ks E df H = RunV (avalE (.nilck x) E H) d rest cb rd n Q ks E df H) ∧
  (∀ {cb : CB} {rd : Option Nat} {n : Nat} {Q : KP} {ks : List Kt} {E : Env} {df : List ADf} {H : Heap} {zs : List AV} {d : Option Nat} {rest : List AOper}, RR cb rd n Q (⟨d, .alloc zs, none⟩ :: rest) ks E df H = RunX (aactE (.alloc zs) E H) d rest cb rd n Q ks E df)) ∧
  ((∀ {cb : CB} {rd : Option Nat} {n : Nat} {Q : KP} {ks : List Kt} {E : Env} {df : List ADf} {H : Heap} {x : X} {d : Option Nat} {rest : List AOper}, RR cb rd n Q (⟨d, .box x, none⟩ :: rest) ks E df H = RunX (aactE (.box x) E H) d rest cb rd n Q ks E df) ∧
  ((∀ {cb : CB} {rd : Option Nat} {n : Nat} {Q : KP} {ks : List Kt} {E : Env} {df : List ADf} {H : Heap} {sz : Nat} {a : X} {v : X} {d : Option Nat} {rest : List AOper}, RR cb rd n Q (⟨d, .store sz a v, none⟩ :: rest) ks E df H = RunX (aactE (.store sz a v) E H) d rest cb rd n Q ks E df) ∧
  (∀ {cb : CB} {rd : Option Nat} {n : Nat} {Q : KP} {ks : List Kt} {E : Env} {df : List ADf} {H : Heap} {d : Option Nat} {rest : List AOper}, RR cb rd n Q (⟨d, .mkmap , none⟩ :: rest) ks E df H = RunX (aactE (.mkmap ) E H) d rest cb rd n Q ks E df)))) ∧
  (((∀ {cb : CB} {rd : Option Nat} {n : Nat} {Q : KP} {ks : List Kt} {E : Env} {df : List ADf} {H : Heap} {kk : Nat} {x : X} {k : X} {v : X} {d : Option Nat} {rest : List AOper}, RR cb rd n Q (⟨d, .mapup kk x k v, none⟩ :: rest) ks E df H = RunX (aactE (.mapup kk x k v) E H) d rest cb rd n Q ks E df) ∧
  (∀ {cb : CB} {rd : Option Nat} {n : Nat} {Q : KP} {ks : List Kt} {E : Env} {df : List ADf} {H : Heap} {sz : Nat} {bytes : Nat} {x : X} {y : X} {d : Option Nat} {rest : List AOper}, RR cb rd n Q (⟨d, .append sz bytes x y, none⟩ :: rest) ks E df H = RunX (appV sz bytes (x.evE E) (rowOf H (y.evE E)) H) d rest cb rd n Q ks E df)) ∧
  ((∀ {cb : CB} {rd : Option Nat} {n : Nat} {Q : KP} {ks : List Kt} {E : Env} {df : List ADf} {H : Heap} {sz : Nat} {bytes : Nat} {x : X} {y : X} {d : Option Nat} {rest : List AOper}, RR cb rd n Q (⟨d, .appendm sz bytes x y, none⟩ :: rest) ks E df H = RunX (aactE (.appendm sz bytes x y) E H) d rest cb rd n Q ks E df) ∧
  ((∀ {cb : CB} {rd : Option Nat} {n : Nat} {Q : KP} {ks : List Kt} {E : Env} {df : List ADf} {H : Heap} {sz : Nat} {bytes : Nat} {x : X} {y : X} {d : Option Nat} {rest : List AOper}, RR cb rd n Q (⟨d, .appendr sz bytes x y, none⟩ :: rest) ks E df H = RunX (appR sz bytes (x.evE E) (y.evE E) H) d rest cb rd n Q ks E df) ∧
  (∀ {cb : CB} {rd : Option Nat} {n : Nat} {Q : KP} {ks : List Kt} {E : Env} {df : List ADf} {H : Heap} {sz : Nat} {bytes : Nat} {zs : List AV} {x : X} {y : X} {d : Option Nat} {rest : List AOper}, RR cb rd n Q (⟨d, .appz sz bytes zs x y, none⟩ :: rest) ks E df H = RunX (appzV sz bytes zs (x.evE E) (y.evE E) H) d rest cb rd n Q ks E df))))) ∧
  ((((∀ {cb : CB} {rd : Option Nat} {n : Nat} {Q : KP} {ks : List Kt} {E : Env} {df : List ADf} {H : Heap} {sz : Nat} {bytes : Nat} {zs : List AV} {x : X} {y : X} {d : Option Nat} {rest : List AOper}, RR cb rd n Q (⟨d, .mkslicem sz bytes zs x y, none⟩ :: rest) ks E df H = RunX (aactE (.mkslicem sz bytes zs x y) E H) d rest cb rd n Q ks E df) ∧
  (∀ {cb : CB} {rd : Option Nat} {n : Nat} {Q : KP} {ks : List Kt} {E : Env} {df : List ADf} {H : Heap} {sz : Nat} {bytes : Nat} {zs : List AV} {x : X} {y : X} {d : Option Nat} {rest : List AOper}, RR cb rd n Q (⟨d, .mkslice sz bytes zs x y, none⟩ :: rest) ks E df H = RunV (avalE (.mkslice sz bytes zs x y) E H) d rest cb rd n Q ks E df H)) ∧
  ((∀ {cb : CB} {rd : Option Nat} {n : Nat} {Q : KP} {ks : List Kt} {E : Env} {df : List ADf} {H : Heap} {f : FuncId} {xs : List X} {d : Option Nat} {rest : List AOper}, RR cb rd n Q (⟨d, .mkbnd f xs, none⟩ :: rest) ks E df H = RunV (avalE (.mkbnd f xs) E H) d rest cb rd n Q ks E df H) ∧
  ((∀ {cb : CB} {rd : Option Nat} {n : Nat} {Q : KP} {ks : List Kt} {E : Env} {df : List ADf} {H : Heap} {lx sx : List X} {d : Option Nat} {rest : List AOper}, RR cb rd n Q (⟨d, .chk lx sx, none⟩ :: rest) ks E df H = RunV (avalE (.chk lx sx) E H) d rest cb rd n Q ks E df H) ∧
  (∀ {cb : CB} {rd : Option Nat} {n : Nat} {Q : KP} {ks : List Kt} {E : Env} {df : List ADf} {H : Heap} {x : X} {d : Option Nat} {rest : List AOper}, RR cb rd n Q (⟨d, .boxe x, none⟩ :: rest) ks E df H = RunV (avalE (.boxe x) E H) d rest cb rd n Q ks E df H)))) ∧
  (((∀ {cb : CB} {rd : Option Nat} {n : Nat} {Q : KP} {ks : List Kt} {E : Env} {df : List ADf} {H : Heap} {sz bytes : Nat} {x y : X} {d : Option Nat} {rest : List AOper}, RR cb rd n Q (⟨d, .appc sz bytes x y, none⟩ :: rest) ks E df H = RunV (avalE (.appc sz bytes x y) E H) d rest cb rd n Q ks E df H) ∧
  (∀ {H : Heap} {sz m : Nat} {cs : List AV} {tk : Tk}, rowOf H (.sl sz m cs tk) = .sl sz m cs tk)) ∧
  ((∀ {id : Nat}, offP id [] = true) ∧
  ((∀ {id id' o : Nat} {r : List AV} (h : id' ≠ id), offP id (.ptr id' o :: r) = offP id r) ∧
  (∀ {ss : List AV}, floatV [] ss = true))))))) :=
  ⟨⟨⟨⟨⟨(by intros; first | exact rr_mm | (apply rr_mm <;> assumption)),
  (by intros; first | exact rr_load | (apply rr_load <;> assumption))⟩,
  ⟨(by intros; first | exact rr_fld | (apply rr_fld <;> assumption)),
  ⟨(by intros; first | exact rr_part | (apply rr_part <;> assumption)),
  (by intros; first | exact rr_ixa | (apply rr_ixa <;> assumption))⟩⟩⟩,
  ⟨⟨(by intros; first | exact rr_ixarr | (apply rr_ixarr <;> assumption)),
  (by intros; first | exact rr_ixv | (apply rr_ixv <;> assumption))⟩,
  ⟨(by intros; first | exact rr_ixs | (apply rr_ixs <;> assumption)),
  ⟨(by intros; first | exact rr_bin | (apply rr_bin <;> assumption)),
  (by intros; first | exact rr_un | (apply rr_un <;> assumption))⟩⟩⟩⟩,
  ⟨⟨⟨(by intros; first | exact rr_conv | (apply rr_conv <;> assumption)),
  (by intros; first | exact rr_mkif | (apply rr_mkif <;> assumption))⟩,
  ⟨(by intros; first | exact rr_mkfn | (apply rr_mkfn <;> assumption)),
  ⟨(by intros; first | exact rr_lookup | (apply rr_lookup <;> assumption)),
  (by intros; first | exact rr_tassert | (apply rr_tassert <;> assumption))⟩⟩⟩,
  ⟨⟨(by intros; first | exact rr_ext | (apply rr_ext <;> assumption)),
  (by intros; first | exact rr_slice | (apply rr_slice <;> assumption))⟩,
  ⟨(by intros; first | exact rr_slstr | (apply rr_slstr <;> assumption)),
  ⟨(by intros; first | exact rr_slc3 | (apply rr_slc3 <;> assumption)),
  (by intros; first | exact rr_len | (apply rr_len <;> assumption))⟩⟩⟩⟩⟩,
  ⟨⟨⟨⟨(by intros; first | exact rr_nilck | (apply rr_nilck <;> assumption)),
  (by intros; first | exact rr_alloc | (apply rr_alloc <;> assumption))⟩,
  ⟨(by intros; first | exact rr_box | (apply rr_box <;> assumption)),
  ⟨(by intros; first | exact rr_store | (apply rr_store <;> assumption)),
  (by intros; first | exact rr_mkmap | (apply rr_mkmap <;> assumption))⟩⟩⟩,
  ⟨⟨(by intros; first | exact rr_mapup | (apply rr_mapup <;> assumption)),
  (by intros; first | exact rr_append | (apply rr_append <;> assumption))⟩,
  ⟨(by intros; first | exact rr_appendm | (apply rr_appendm <;> assumption)),
  ⟨(by intros; first | exact rr_appendr | (apply rr_appendr <;> assumption)),
  (by intros; first | exact rr_appz | (apply rr_appz <;> assumption))⟩⟩⟩⟩,
  ⟨⟨⟨(by intros; first | exact rr_mkslicem | (apply rr_mkslicem <;> assumption)),
  (by intros; first | exact rr_mkslice | (apply rr_mkslice <;> assumption))⟩,
  ⟨(by intros; first | exact rr_mkbnd | (apply rr_mkbnd <;> assumption)),
  ⟨(by intros; first | exact rr_chk | (apply rr_chk <;> assumption)),
  (by intros; first | exact rr_boxe | (apply rr_boxe <;> assumption))⟩⟩⟩,
  ⟨⟨(by intros; first | exact rr_appc | (apply rr_appc <;> assumption)),
  (by intros; first | exact rowOf_sl | (apply rowOf_sl <;> assumption))⟩,
  ⟨(by intros; first | exact offP_nil | (apply offP_nil <;> assumption)),
  ⟨(by intros; first | exact offP_ptr | (apply offP_ptr <;> assumption)),
  (by intros; first | exact floatV_nil | (apply floatV_nil <;> assumption))⟩⟩⟩⟩⟩⟩
theorem wk3 : ((((((∀ {cs r ss : List AV}, floatV (.eptr cs :: r) ss = floatV r ss) ∧
  (∀ {id o : Nat} {r ss : List AV} (h : offP id ss = true), floatV (.ptr id o :: r) ss = floatV r ss)) ∧
  ((∀ {cb : CB} {rd : Option Nat} {n : Nat} {Q : KP} {ks : List Kt} {E : Env} {df : List ADf} {H : Heap} {x y : X} {d : Option Nat} {rest : List AOper}, RR cb rd n Q (⟨d, .idxb x y, none⟩ :: rest) ks E df H = RunV (avalE (.idxb x y) E H) d rest cb rd n Q ks E df H) ∧
  ((∀ {cb : CB} {rd : Option Nat} {n : Nat} {Q : KP} {ks : List Kt} {E : Env} {df : List ADf} {H : Heap} {x y : X} {d : Option Nat} {rest : List AOper}, RR cb rd n Q (⟨d, .cntb x y, none⟩ :: rest) ks E df H = RunV (avalE (.cntb x y) E H) d rest cb rd n Q ks E df H) ∧
  (∀ {cb : CB} {rd : Option Nat} {n : Nat} {Q : KP} {ks : List Kt} {E : Env} {df : List ADf} {H : Heap} {sz : Nat} {zs : List AV} {x : X} {d : Option Nat} {rest : List AOper}, RR cb rd n Q (⟨d, .clr sz zs x, none⟩ :: rest) ks E df H = RunX (aactE (.clr sz zs x) E H) d rest cb rd n Q ks E df)))) ∧
  (((∀ {cb : CB} {rd : Option Nat} {n : Nat} {Q : KP} {ks : List Kt} {E : Env} {df : List ADf} {H : Heap} {n0 sz : Nat} {x : X} {lo hi : Option X} {d : Option Nat} {rest : List AOper}, RR cb rd n Q (⟨d, .slarr n0 sz x lo hi, none⟩ :: rest) ks E df H = RunV (avalE (.slarr n0 sz x lo hi) E H) d rest cb rd n Q ks E df H) ∧
  (∀ {cb : CB} {rd : Option Nat} {n : Nat} {Q : KP} {ks : List Kt} {E : Env} {df : List ADf} {H : Heap} {n0 : Nat} {x : X} {d : Option Nat} {rest : List AOper}, RR cb rd n Q (⟨d, .s2arr n0 x, none⟩ :: rest) ks E df H = RunV (avalE (.s2arr n0 x) E H) d rest cb rd n Q ks E df H)) ∧
  ((∀ {cb : CB} {rd : Option Nat} {n : Nat} {Q : KP} {ks : List Kt} {E : Env} {df : List ADf} {H : Heap} {f : FuncId} {xs : List X} {d : Option Nat} {rest : List AOper}, RR cb rd n Q (⟨d, .callf f xs, none⟩ :: rest) ks E df H = RunX (aactE (.callf f xs) E H) d rest cb rd n Q ks E df) ∧
  ((∀ {cb : CB} {rd : Option Nat} {n : Nat} {Q : KP} {ks : List Kt} {E : Env} {df : List ADf} {H : Heap} {rw : Bool} {f : FuncId} {xs : List X} {d : Option Nat} {rest : List AOper}, RR cb rd n Q (⟨d, .callm rw f xs, none⟩ :: rest) ks E df H = RunX (aactE (.callm rw f xs) E H) d rest cb rd n Q ks E df) ∧
  (∀ {cb : CB} {rd : Option Nat} {n : Nat} {Q : KP} {ks : List Kt} {E : Env} {df : List ADf} {H : Heap} {x : X} {xs : List X} {d : Option Nat} {rest : List AOper}, RR cb rd n Q (⟨d, .callv x xs, none⟩ :: rest) ks E df H = RunX (aactE (.callv x xs) E H) d rest cb rd n Q ks E df))))) ∧
  ((((∀ {cb : CB} {rd : Option Nat} {n : Nat} {Q : KP} {ks : List Kt} {E : Env} {df : List ADf} {H : Heap} {d : Option Nat} {rest : List AOper}, RR cb rd n Q (⟨d, .recov , none⟩ :: rest) ks E df H = RunX (aactE (.recov ) E H) d rest cb rd n Q ks E df) ∧
  (∀ {cb : CB} {rd : Option Nat} {n : Nat} {Q : KP} {ks : List Kt} {E : Env} {df : List ADf} {H : Heap} {x : X} {d : Option Nat} {rest : List AOper}, RR cb rd n Q (⟨d, .panic x, none⟩ :: rest) ks E df H = RunX (aactE (.panic x) E H) d rest cb rd n Q ks E df)) ∧
  ((∀ {cb : CB} {rd : Option Nat} {n : Nat} {Q : KP} {ks : List Kt} {E : Env} {df : List ADf} {H : Heap} {x : X} {xs : List X} {d : Option Nat} {rest : List AOper}, RR cb rd n Q (⟨d, .dfr x xs, none⟩ :: rest) ks E df H = RunX (aactE (.dfr x xs) E H) d rest cb rd n Q ks E df) ∧
  ((∀ {cb : CB} {rd : Option Nat} {n : Nat} {Q : KP} {ks : List Kt} {E : Env} {df : List ADf} {H : Heap} {t : Nat} {b : Bool} {d : Option Nat} {op : AOp} {rest : List AOper}, RR cb rd n Q (⟨d, op, some (t, b)⟩ :: rest) ks E df H = RunG (E t) b d op rest cb rd n Q ks E df H) ∧
  (∀ {cb : CB} {rd : Option Nat} {n : Nat} {Q : KP} {ks : List Kt} {E : Env} {df : List ADf} {H : Heap} {v : AV} {d : Option Nat} {rest : List AOper}, RunV (some v) d rest cb rd n Q ks E df H = RR cb rd n Q rest ks (updD E d v) df H)))) ∧
  (((∀ {cb : CB} {rd : Option Nat} {n : Nat} {Q : KP} {ks : List Kt} {E : Env} {df : List ADf} {v : AV} {H' : Heap} {d : Option Nat} {rest : List AOper}, RunO (some (.ret v, H')) d rest cb rd n Q ks E df = RR cb rd n Q rest ks (updD E d v) df H') ∧
  (∀ {cb : CB} {rd : Option Nat} {n : Nat} {Q : KP} {ks : List Kt} {E : Env} {df : List ADf} {c : List (AV × Bool)} {H' : Heap} {d : Option Nat} {rest : List AOper}, RunO (some (.pan c, H')) d rest cb rd n Q ks E df = Ret cb rd n Q ks (.panic c) E df H')) ∧
  ((∀ {cb : CB} {rd : Option Nat} {n : Nat} {Q : KP} {ks : List Kt} {E : Env} {df : List ADf} {v : AV} {H' : Heap} {d : Option Nat} {rest : List AOper}, RunX (some (.val v, H')) d rest cb rd n Q ks E df = RR cb rd n Q rest ks (updD E d v) df H') ∧
  ((∀ {cb : CB} {rd : Option Nat} {n : Nat} {Q : KP} {ks : List Kt} {E : Env} {df : List ADf} {H' : Heap} {d : Option Nat} {rest : List AOper}, RunX (some (.skip, H')) d rest cb rd n Q ks E df = RR cb rd n Q rest ks (updD E d (.tup [])) df H') ∧
  (∀ {cb : CB} {rd : Option Nat} {n : Nat} {Q : KP} {ks : List Kt} {E : Env} {df : List ADf} {f : FuncId} {args : List AV} {H' : Heap} {d : Option Nat} {rest : List AOper}, RunX (some (.enter f args, H')) d rest cb rd n Q ks E df = RunE (pcx cb f args H') f args H' d rest cb rd n Q ks E df)))))) ∧
  (((((∀ {cb : CB} {rd : Option Nat} {n : Nat} {Q : KP} {ks : List Kt} {E : Env} {df : List ADf} {v : AV} {f : FuncId} {args : List AV} {H' : Heap} {d : Option Nat} {rest : List AOper}, RunE (some (.plain v)) f args H' d rest cb rd n Q ks E df = RR cb rd n Q rest ks (updD E d v) df H') ∧
  (∀ {cb : CB} {rd : Option Nat} {n : Nat} {Q : KP} {ks : List Kt} {E : Env} {df : List ADf} {sz n' : Nat} {cs : List AV} {f : FuncId} {args : List AV} {H' : Heap} {d : Option Nat} {rest : List AOper}, RunE (some (.fresh sz n' cs)) f args H' d rest cb rd n Q ks E df = RR cb rd n Q rest ks (updD E d (.sl sz n' cs (.own H'.length))) df (H' ++ [.tok sz]))) ∧
  ((∀ {cb : CB} {rd : Option Nat} {n : Nat} {Q : KP} {ks : List Kt} {E : Env} {df : List ADf} {es : List (AV × AV)} {f : FuncId} {args : List AV} {H' : Heap} {d : Option Nat} {rest : List AOper}, RunE (some (.fmap es)) f args H' d rest cb rd n Q ks E df = RR cb rd n Q rest ks (updD E d (.mp H'.length)) df (H' ++ [.map es])) ∧
  ((∀ {cb : CB} {rd : Option Nat} {n : Nat} {Q : KP} {ks : List Kt} {E : Env} {df : List ADf} {c : List (AV × Bool)} {f : FuncId} {args : List AV} {H' : Heap} {d : Option Nat} {rest : List AOper}, RunE (some (.pan c)) f args H' d rest cb rd n Q ks E df = Ret cb rd n Q ks (.panic c) E df H') ∧
  (∀ {cb : CB} {rd : Option Nat} {n : Nat} {Q : KP} {ks : List Kt} {E : Env} {df : List ADf} {rw : Bool} {f : FuncId} {args : List AV} {H' : Heap} {d : Option Nat} {rest : List AOper}, RunX (some (.enterm rw f args, H')) d rest cb rd n Q ks E df = RunO (enterM cb rw f args H') d rest cb rd n Q ks E df)))) ∧
  (((∀ {cb : CB} {rd : Option Nat} {n : Nat} {Q : KP} {ks : List Kt} {E : Env} {df : List ADf} {id : Nat} {args : List AV} {H' : Heap} {d : Option Nat} {rest : List AOper}, RunX (some (.yield id args, H')) d rest cb rd n Q ks E df = RunO (cb.yl id args H') d rest cb rd n Q ks E df) ∧
  (∀ {cb : CB} {rd : Option Nat} {n : Nat} {Q : KP} {ks : List Kt} {E : Env} {df : List ADf} {v : AV} {H' : Heap} {d : Option Nat} {rest : List AOper}, RunX (some (.pan v, H')) d rest cb rd n Q ks E df = Ret cb rd n Q ks (.panic [(v, false)]) E df H')) ∧
  ((∀ {cb : CB} {rd : Option Nat} {n : Nat} {Q : KP} {ks : List Kt} {E : Env} {df : List ADf} {q : ADf} {H' : Heap} {d : Option Nat} {rest : List AOper}, RunX (some (.dfr q, H')) d rest cb rd n Q ks E df = RR cb rd n Q rest ks (updD E d (.tup [])) (q :: df) H') ∧
  ((∀ {cb : CB} {rd : Option Nat} {n : Nat} {Q : KP} {ks : List Kt} {E : Env} {df : List ADf} {H : Heap} {d : Option Nat} {op : AOp} {rest : List AOper}, RunG (.bool true) true d op rest cb rd n Q ks E df H = RR cb rd n Q (⟨d, op, none⟩ :: rest) ks E df H) ∧
  (∀ {cb : CB} {rd : Option Nat} {n : Nat} {Q : KP} {ks : List Kt} {E : Env} {df : List ADf} {H : Heap} {d : Option Nat} {op : AOp} {rest : List AOper}, RunG (.bool true) false d op rest cb rd n Q ks E df H = RR cb rd n Q rest ks (updD E d (.tup [])) df H))))) ∧
  ((((∀ {cb : CB} {rd : Option Nat} {n : Nat} {Q : KP} {ks : List Kt} {E : Env} {df : List ADf} {H : Heap} {d : Option Nat} {op : AOp} {rest : List AOper}, RunG (.bool false) true d op rest cb rd n Q ks E df H = RR cb rd n Q rest ks (updD E d (.tup [])) df H) ∧
  (∀ {cb : CB} {rd : Option Nat} {n : Nat} {Q : KP} {ks : List Kt} {E : Env} {df : List ADf} {H : Heap} {d : Option Nat} {op : AOp} {rest : List AOper}, RunG (.bool false) false d op rest cb rd n Q ks E df H = RR cb rd n Q (⟨d, op, none⟩ :: rest) ks E df H)) ∧
  ((∀ {cb : CB} {rd : Option Nat} {n : Nat} {Q : KP} {ks : List Kt} {E : Env} {df : List ADf} {H : Heap} {p : Prop} [Decidable p] {d : Option Nat} {op : AOp} {rest : List AOper} (h : p), RunG (.bool (decide p)) true d op rest cb rd n Q ks E df H = RR cb rd n Q (⟨d, op, none⟩ :: rest) ks E df H) ∧
  ((∀ {cb : CB} {rd : Option Nat} {n : Nat} {Q : KP} {ks : List Kt} {E : Env} {df : List ADf} {H : Heap} {p : Prop} [Decidable p] {d : Option Nat} {op : AOp} {rest : List AOper} (h : p), RunG (.bool (decide p)) false d op rest cb rd n Q ks E df H = RR cb rd n Q rest ks (updD E d (.tup [])) df H) ∧
  (∀ {cb : CB} {rd : Option Nat} {n : Nat} {Q : KP} {ks : List Kt} {E : Env} {df : List ADf} {H : Heap} {p : Prop} [Decidable p] {d : Option Nat} {op : AOp} {rest : List AOper} (h : ¬ p), RunG (.bool (decide p)) true d op rest cb rd n Q ks E df H = RR cb rd n Q rest ks (updD E d (.tup [])) df H)))) ∧
  (((∀ {cb : CB} {rd : Option Nat} {n : Nat} {Q : KP} {ks : List Kt} {E : Env} {df : List ADf} {H : Heap} {p : Prop} [Decidable p] {d : Option Nat} {op : AOp} {rest : List AOper} (h : ¬ p), RunG (.bool (decide p)) false d op rest cb rd n Q ks E df H = RR cb rd n Q (⟨d, op, none⟩ :: rest) ks E df H) ∧
  (∀ {cb : CB} {rd : Option Nat} {n : Nat} {Q : KP} {ks : List Kt} {E : Env} {df : List ADf} {H : Heap} {tail : List AOper} {e : List AObj}, RP cb rd n Q [] tail e ks E df H = RR cb rd n Q tail ks E df (hpush H e))) ∧
  ((∀ (H : Heap), hpush H [] = H) ∧
  ((∀ (H : Heap) (g : AObj) (e : List AObj), hpush H (g :: e) = H ++ (g :: e)) ∧
  (∀ {cb : CB} {rd : Option Nat} {n : Nat} {Q : KP} {ks : List Kt} {E : Env} {df : List ADf} {H : Heap} {o : AOper} {rest tail : List AOper} {e : List AObj}, RP cb rd n Q (o :: rest) tail e ks E df H = RunPV (ap1E cb H (hpush H e) o E (H.length + e.length)) o.dst rest tail e cb rd n Q ks E df H))))))) :=
  ⟨⟨⟨⟨⟨(by intros; first | exact floatV_e | (apply floatV_e <;> assumption)),
  (by intros; first | exact floatV_p | (apply floatV_p <;> assumption))⟩,
  ⟨(by intros; first | exact rr_idxb | (apply rr_idxb <;> assumption)),
  ⟨(by intros; first | exact rr_cntb | (apply rr_cntb <;> assumption)),
  (by intros; first | exact rr_clr | (apply rr_clr <;> assumption))⟩⟩⟩,
  ⟨⟨(by intros; first | exact rr_slarr | (apply rr_slarr <;> assumption)),
  (by intros; first | exact rr_s2arr | (apply rr_s2arr <;> assumption))⟩,
  ⟨(by intros; first | exact rr_callf | (apply rr_callf <;> assumption)),
  ⟨(by intros; first | exact rr_callm | (apply rr_callm <;> assumption)),
  (by intros; first | exact rr_callv | (apply rr_callv <;> assumption))⟩⟩⟩⟩,
  ⟨⟨⟨(by intros; first | exact rr_recov | (apply rr_recov <;> assumption)),
  (by intros; first | exact rr_panic | (apply rr_panic <;> assumption))⟩,
  ⟨(by intros; first | exact rr_dfr | (apply rr_dfr <;> assumption)),
  ⟨(by intros; first | exact rr_guard | (apply rr_guard <;> assumption)),
  (by intros; first | exact runV_some | (apply runV_some <;> assumption))⟩⟩⟩,
  ⟨⟨(by intros; first | exact runO_ret | (apply runO_ret <;> assumption)),
  (by intros; first | exact runO_pan | (apply runO_pan <;> assumption))⟩,
  ⟨(by intros; first | exact runX_val | (apply runX_val <;> assumption)),
  ⟨(by intros; first | exact runX_skip | (apply runX_skip <;> assumption)),
  (by intros; first | exact runX_enter | (apply runX_enter <;> assumption))⟩⟩⟩⟩⟩,
  ⟨⟨⟨⟨(by intros; first | exact runE_plain | (apply runE_plain <;> assumption)),
  (by intros; first | exact runE_fresh | (apply runE_fresh <;> assumption))⟩,
  ⟨(by intros; first | exact runE_fmap | (apply runE_fmap <;> assumption)),
  ⟨(by intros; first | exact runE_pan | (apply runE_pan <;> assumption)),
  (by intros; first | exact runX_enterm | (apply runX_enterm <;> assumption))⟩⟩⟩,
  ⟨⟨(by intros; first | exact runX_yield | (apply runX_yield <;> assumption)),
  (by intros; first | exact runX_pan | (apply runX_pan <;> assumption))⟩,
  ⟨(by intros; first | exact runX_dfr | (apply runX_dfr <;> assumption)),
  ⟨(by intros; first | exact runG_tt | (apply runG_tt <;> assumption)),
  (by intros; first | exact runG_tf | (apply runG_tf <;> assumption))⟩⟩⟩⟩,
  ⟨⟨⟨(by intros; first | exact runG_ft | (apply runG_ft <;> assumption)),
  (by intros; first | exact runG_ff | (apply runG_ff <;> assumption))⟩,
  ⟨(by intros; first | exact runG_dtt | (apply runG_dtt <;> assumption)),
  ⟨(by intros; first | exact runG_dtf | (apply runG_dtf <;> assumption)),
  (by intros; first | exact runG_dft | (apply runG_dft <;> assumption))⟩⟩⟩,
  ⟨⟨(by intros; first | exact runG_dff | (apply runG_dff <;> assumption)),
  (by intros; first | exact rp_nil | (apply rp_nil <;> assumption))⟩,
  ⟨(by intros; first | exact hpush_nil | (apply hpush_nil <;> assumption)),
  ⟨(by intros; first | exact hpush_cons | (apply hpush_cons <;> assumption)),
  (by intros; first | exact rp_cons | (apply rp_cons <;> assumption))⟩⟩⟩⟩⟩⟩
theorem wk4 : ((((((∀ {cb : CB} {rd : Option Nat} {n : Nat} {Q : KP} {ks : List Kt} {E : Env} {df : List ADf} {H : Heap} {v : AV} {d : Option Nat} {rest tail : List AOper} {e : List AObj}, RunPV (some (v, none)) d rest tail e cb rd n Q ks E df H = RP cb rd n Q rest tail e ks (updD E d v) df H) ∧
  (∀ {cb : CB} {rd : Option Nat} {n : Nat} {Q : KP} {ks : List Kt} {E : Env} {df : List ADf} {H : Heap} {v : AV} {k : AObj} {d : Option Nat} {rest tail : List AOper} {e : List AObj}, RunPV (some (v, some k)) d rest tail e cb rd n Q ks E df H = RP cb rd n Q rest tail (e ++ [k]) ks (updD E d v) df H)) ∧
  ((∀ {v : AV}, avalP (some v) = some (v, none)) ∧
  ((∀ {v : AV} {q : Option AV}, lookP (some v) q = some (v, none)) ∧
  (∀ {q : Option AV}, lookP none q = avalP q)))) ∧
  (((∀ {v : AV} {g : Nat}, prP (some (.plain v)) g = some (v, none)) ∧
  (∀ {sz n g : Nat} {cs : List AV}, prP (some (.fresh sz n cs)) g = some (.sl sz n cs (.own g), some (.tok sz)))) ∧
  ((∀ {es : List (AV × AV)} {g : Nat}, prP (some (.fmap es)) g = some (.mp g, some (.map es))) ∧
  ((∀ {cb : CB} {E : Env} {H : Heap} {G : Heap} {x : X} {d : Option Nat} {g : Nat}, ap1E cb H G ⟨d, .mv x, none⟩ E g = avalP (avalE (.mv x) E H)) ∧
  (∀ {cb : CB} {E : Env} {H : Heap} {G : Heap} {c : X} {a : X} {b : X} {d : Option Nat} {g : Nat}, ap1E cb H G ⟨d, .pick c a b, none⟩ E g = avalP (avalE (.pick c a b) E H)))))) ∧
  ((((∀ {cb : CB} {E : Env} {H : Heap} {G : Heap} {zs : List AV} {ps : List (Nat × Nat × X)} {d : Option Nat} {g : Nat}, ap1E cb H G ⟨d, .build zs ps, none⟩ E g = avalP (avalE (.build zs ps) E H)) ∧
  (∀ {cb : CB} {E : Env} {H : Heap} {G : Heap} {sz : Nat} {len : Nat} {zs : List AV} {ps : List (Nat × Nat × X)} {d : Option Nat} {g : Nat}, ap1E cb H G ⟨d, .bslice sz len zs ps, none⟩ E g = avalP (avalE (.bslice sz len zs ps) E H))) ∧
  ((∀ {cb : CB} {E : Env} {H : Heap} {G : Heap} {sz : Nat} {len : Nat} {zs : List AV} {ps : List (Nat × Nat × X)} {d : Option Nat} {g : Nat}, ap1E cb H G ⟨d, .bsfull sz len zs ps, none⟩ E g = avalP (avalE (.bsfull sz len zs ps) E H)) ∧
  ((∀ {cb : CB} {E : Env} {H : Heap} {G : Heap} {mx : Bool} {x : X} {y : X} {d : Option Nat} {g : Nat}, ap1E cb H G ⟨d, .mm mx x y, none⟩ E g = avalP (avalE (.mm mx x y) E H)) ∧
  (∀ {cb : CB} {E : Env} {H : Heap} {G : Heap} {sz : Nat} {ag : Bool} {x : X} {d : Option Nat} {g : Nat}, ap1E cb H G ⟨d, .load sz ag x, none⟩ E g = avalP (avalE (.load sz ag x) E H))))) ∧
  (((∀ {cb : CB} {E : Env} {H : Heap} {G : Heap} {off : Nat} {x : X} {d : Option Nat} {g : Nat}, ap1E cb H G ⟨d, .fld off x, none⟩ E g = avalP (avalE (.fld off x) E H)) ∧
  (∀ {cb : CB} {E : Env} {H : Heap} {G : Heap} {off : Nat} {sz : Nat} {ag : Bool} {x : X} {d : Option Nat} {g : Nat}, ap1E cb H G ⟨d, .part off sz ag x, none⟩ E g = avalP (avalE (.part off sz ag x) E H))) ∧
  ((∀ {cb : CB} {E : Env} {H : Heap} {G : Heap} {sz : Nat} {x : X} {i : X} {d : Option Nat} {g : Nat}, ap1E cb H G ⟨d, .ixa sz x i, none⟩ E g = avalP (avalE (.ixa sz x i) E H)) ∧
  ((∀ {cb : CB} {E : Env} {H : Heap} {G : Heap} {n0 : Nat} {sz : Nat} {x : X} {i : X} {d : Option Nat} {g : Nat}, ap1E cb H G ⟨d, .ixarr n0 sz x i, none⟩ E g = avalP (avalE (.ixarr n0 sz x i) E H)) ∧
  (∀ {cb : CB} {E : Env} {H : Heap} {G : Heap} {n0 : Nat} {sz : Nat} {ag : Bool} {x : X} {i : X} {d : Option Nat} {g : Nat}, ap1E cb H G ⟨d, .ixv n0 sz ag x i, none⟩ E g = avalP (avalE (.ixv n0 sz ag x i) E H))))))) ∧
  (((((∀ {cb : CB} {E : Env} {H : Heap} {G : Heap} {x : X} {i : X} {d : Option Nat} {g : Nat}, ap1E cb H G ⟨d, .ixs x i, none⟩ E g = avalP (avalE (.ixs x i) E H)) ∧
  (∀ {cb : CB} {E : Env} {H : Heap} {G : Heap} {op : BinOp} {ek : EqK} {x : X} {y : X} {d : Option Nat} {g : Nat}, ap1E cb H G ⟨d, .bin op ek x y, none⟩ E g = avalP (avalE (.bin op ek x y) E H))) ∧
  ((∀ {cb : CB} {E : Env} {H : Heap} {G : Heap} {uop : UnOp} {x : X} {d : Option Nat} {g : Nat}, ap1E cb H G ⟨d, .un uop x, none⟩ E g = avalP (avalE (.un uop x) E H)) ∧
  ((∀ {cb : CB} {E : Env} {H : Heap} {G : Heap} {cv : CvK} {x : X} {d : Option Nat} {g : Nat}, ap1E cb H G ⟨d, .conv cv x, none⟩ E g = avalP (avalE (.conv cv x) E H)) ∧
  (∀ {cb : CB} {E : Env} {H : Heap} {G : Heap} {ty : TypeId} {x : X} {d : Option Nat} {g : Nat}, ap1E cb H G ⟨d, .mkif ty x, none⟩ E g = avalP (avalE (.mkif ty x) E H))))) ∧
  (((∀ {cb : CB} {E : Env} {H : Heap} {G : Heap} {f : FuncId} {xs : List X} {d : Option Nat} {g : Nat}, ap1E cb H G ⟨d, .mkfn f xs, none⟩ E g = avalP (avalE (.mkfn f xs) E H)) ∧
  (∀ {cb : CB} {E : Env} {H : Heap} {G : Heap} {kk : Nat} {zero : AV} {j : Nat} {i : X} {ok : Bool} {d : Option Nat} {g : Nat}, ap1E cb H G ⟨d, .lookup kk zero (.t j) i ok, none⟩ E g = lookP (avalE (.lookup kk zero (.t j) i ok) E H) (avalE (.lookup kk zero (.t j) i ok) E G))) ∧
  ((∀ {cb : CB} {E : Env} {H : Heap} {G : Heap} {ty : TypeId} {zero : AV} {x : X} {ok : Bool} {d : Option Nat} {g : Nat}, ap1E cb H G ⟨d, .tassert ty zero x ok, none⟩ E g = avalP (avalE (.tassert ty zero x ok) E H)) ∧
  ((∀ {cb : CB} {E : Env} {H : Heap} {G : Heap} {x : X} {j : Nat} {d : Option Nat} {g : Nat}, ap1E cb H G ⟨d, .ext x j, none⟩ E g = avalP (avalE (.ext x j) E H)) ∧
  (∀ {cb : CB} {E : Env} {H : Heap} {G : Heap} {sz : Nat} {x : X} {lo : Option X} {hi : Option X} {d : Option Nat} {g : Nat}, ap1E cb H G ⟨d, .slice sz x lo hi, none⟩ E g = avalP (avalE (.slice sz x lo hi) E H)))))) ∧
  ((((∀ {cb : CB} {E : Env} {H : Heap} {G : Heap} {x : X} {lo : Option X} {hi : Option X} {d : Option Nat} {g : Nat}, ap1E cb H G ⟨d, .slstr x lo hi, none⟩ E g = avalP (avalE (.slstr x lo hi) E H)) ∧
  (∀ {cb : CB} {E : Env} {H : Heap} {G : Heap} {sz : Nat} {x : X} {lo : Option X} {hi : Option X} {mx : Option X} {d : Option Nat} {g : Nat}, ap1E cb H G ⟨d, .slc3 sz x lo hi mx, none⟩ E g = avalP (avalE (.slc3 sz x lo hi mx) E H))) ∧
  ((∀ {cb : CB} {E : Env} {H : Heap} {G : Heap} {k : Nat} {x : X} {d : Option Nat} {g : Nat}, ap1E cb H G ⟨d, .len k x, none⟩ E g = avalP (avalE (.len k x) E H)) ∧
  ((∀ {cb : CB} {E : Env} {H : Heap} {G : Heap} {x : X} {d : Option Nat} {g : Nat}, ap1E cb H G ⟨d, .nilck x, none⟩ E g = avalP (avalE (.nilck x) E H)) ∧
  (∀ {cb : CB} {E : Env} {H : Heap} {G : Heap} {d : Option Nat} {f : FuncId} {args : List X} {g : Nat}, ap1E cb H G ⟨d, .callf f args, none⟩ E g = prP (pcx cb f (args.map (·.evE E)) H) g)))) ∧
  (((∀ {cb : CB} {E : Env} {H : Heap} {G : Heap} {zs : List AV} {d : Option Nat} {g : Nat}, ap1E cb H G ⟨d, .alloc zs, none⟩ E g = some (.ptr g 0, some (.cells zs))) ∧
  (∀ {cb : CB} {E : Env} {H : Heap} {G : Heap} {d : Option Nat} {x : X} {args : List X} {g : Nat}, ap1E cb H G ⟨d, .callv x args, none⟩ E g = prV cb H (calleeA (x.evE E) (args.map (·.evE E))) g)) ∧
  ((∀ {cb : CB} {H : Heap} {f : FuncId} {as : List AV} {g : Nat}, prV cb H (some (f, as)) g = prP (pcx cb f as H) g) ∧
  ((∀ {f : FuncId} {caps as : List AV}, calleeA (.fn f caps) as = some (f, as ++ caps)) ∧
  (∀ {f : FuncId} {fs as : List AV}, calleeA (.bnd f fs) as = some (f, fs ++ as)))))))) :=
  ⟨⟨⟨⟨⟨(by intros; first | exact runPV_plain | (apply runPV_plain <;> assumption)),
  (by intros; first | exact runPV_fresh | (apply runPV_fresh <;> assumption))⟩,
  ⟨(by intros; first | exact avalP_some | (apply avalP_some <;> assumption)),
  ⟨(by intros; first | exact lookP_some | (apply lookP_some <;> assumption)),
  (by intros; first | exact lookP_none | (apply lookP_none <;> assumption))⟩⟩⟩,
  ⟨⟨(by intros; first | exact prP_plain | (apply prP_plain <;> assumption)),
  (by intros; first | exact prP_fresh | (apply prP_fresh <;> assumption))⟩,
  ⟨(by intros; first | exact prP_fmap | (apply prP_fmap <;> assumption)),
  ⟨(by intros; first | exact ap_mv | (apply ap_mv <;> assumption)),
  (by intros; first | exact ap_pick | (apply ap_pick <;> assumption))⟩⟩⟩⟩,
  ⟨⟨⟨(by intros; first | exact ap_build | (apply ap_build <;> assumption)),
  (by intros; first | exact ap_bslice | (apply ap_bslice <;> assumption))⟩,
  ⟨(by intros; first | exact ap_bsfull | (apply ap_bsfull <;> assumption)),
  ⟨(by intros; first | exact ap_mm | (apply ap_mm <;> assumption)),
  (by intros; first | exact ap_load | (apply ap_load <;> assumption))⟩⟩⟩,
  ⟨⟨(by intros; first | exact ap_fld | (apply ap_fld <;> assumption)),
  (by intros; first | exact ap_part | (apply ap_part <;> assumption))⟩,
  ⟨(by intros; first | exact ap_ixa | (apply ap_ixa <;> assumption)),
  ⟨(by intros; first | exact ap_ixarr | (apply ap_ixarr <;> assumption)),
  (by intros; first | exact ap_ixv | (apply ap_ixv <;> assumption))⟩⟩⟩⟩⟩,
  ⟨⟨⟨⟨(by intros; first | exact ap_ixs | (apply ap_ixs <;> assumption)),
  (by intros; first | exact ap_bin | (apply ap_bin <;> assumption))⟩,
  ⟨(by intros; first | exact ap_un | (apply ap_un <;> assumption)),
  ⟨(by intros; first | exact ap_conv | (apply ap_conv <;> assumption)),
  (by intros; first | exact ap_mkif | (apply ap_mkif <;> assumption))⟩⟩⟩,
  ⟨⟨(by intros; first | exact ap_mkfn | (apply ap_mkfn <;> assumption)),
  (by intros; first | exact ap_lookup | (apply ap_lookup <;> assumption))⟩,
  ⟨(by intros; first | exact ap_tassert | (apply ap_tassert <;> assumption)),
  ⟨(by intros; first | exact ap_ext | (apply ap_ext <;> assumption)),
  (by intros; first | exact ap_slice | (apply ap_slice <;> assumption))⟩⟩⟩⟩,
  ⟨⟨⟨(by intros; first | exact ap_slstr | (apply ap_slstr <;> assumption)),
  (by intros; first | exact ap_slc3 | (apply ap_slc3 <;> assumption))⟩,
  ⟨(by intros; first | exact ap_len | (apply ap_len <;> assumption)),
  ⟨(by intros; first | exact ap_nilck | (apply ap_nilck <;> assumption)),
  (by intros; first | exact ap1E_call | (apply ap1E_call <;> assumption))⟩⟩⟩,
  ⟨⟨(by intros; first | exact ap_alloc | (apply ap_alloc <;> assumption)),
  (by intros; first | exact ap1E_callv | (apply ap1E_callv <;> assumption))⟩,
  ⟨(by intros; first | exact prV_some | (apply prV_some <;> assumption)),
  ⟨(by intros; first | exact callee_fn | (apply callee_fn <;> assumption)),
  (by intros; first | exact callee_bnd | (apply callee_bnd <;> assumption))⟩⟩⟩⟩⟩⟩
theorem wk5 : ((((((∀ {cb : CB} {E : Env} {H : Heap} {G : Heap} {sz : Nat} {bytes : Nat} {zs : List AV} {x : X} {y : X} {d : Option Nat} {g : Nat}, ap1E cb H G ⟨d, .mkslice sz bytes zs x y, none⟩ E g = avalP (avalE (.mkslice sz bytes zs x y) E H)) ∧
  (∀ {cb : CB} {E : Env} {H : Heap} {G : Heap} {f : FuncId} {xs : List X} {d : Option Nat} {g : Nat}, ap1E cb H G ⟨d, .mkbnd f xs, none⟩ E g = avalP (avalE (.mkbnd f xs) E H))) ∧
  ((∀ {cb : CB} {E : Env} {H : Heap} {G : Heap} {x : X} {d : Option Nat} {g : Nat}, ap1E cb H G ⟨d, .boxe x, none⟩ E g = avalP (avalE (.boxe x) E H)) ∧
  ((∀ {cb : CB} {E : Env} {H : Heap} {G : Heap} {sz bytes : Nat} {x y : X} {d : Option Nat} {g : Nat}, ap1E cb H G ⟨d, .appc sz bytes x y, none⟩ E g = avalP (avalE (.appc sz bytes x y) E H)) ∧
  (∀ {cb : CB} {E : Env} {H : Heap} {G : Heap} {x y : X} {d : Option Nat} {g : Nat}, ap1E cb H G ⟨d, .idxb x y, none⟩ E g = avalP (avalE (.idxb x y) E H))))) ∧
  (((∀ {cb : CB} {E : Env} {H : Heap} {G : Heap} {x y : X} {d : Option Nat} {g : Nat}, ap1E cb H G ⟨d, .cntb x y, none⟩ E g = avalP (avalE (.cntb x y) E H)) ∧
  (∀ {cb : CB} {E : Env} {H : Heap} {G : Heap} {n0 sz : Nat} {x : X} {lo hi : Option X} {d : Option Nat} {g : Nat}, ap1E cb H G ⟨d, .slarr n0 sz x lo hi, none⟩ E g = avalP (avalE (.slarr n0 sz x lo hi) E H))) ∧
  ((∀ {cb : CB} {E : Env} {H : Heap} {G : Heap} {n0 : Nat} {x : X} {d : Option Nat} {g : Nat}, ap1E cb H G ⟨d, .s2arr n0 x, none⟩ E g = avalP (avalE (.s2arr n0 x) E H)) ∧
  ((∀ {cb : CB} {E : Env} {H : Heap} {G : Heap} {d : Option Nat} {op : AOp} {t : Nat} {b : Bool} {g : Nat}, ap1E cb H G ⟨d, op, some (t, b)⟩ E g = GP (E t) b (ap1E cb H G ⟨d, op, none⟩ E g)) ∧
  (∀ {o : Option (AV × Option AObj)}, GP (.bool true) true o = o))))) ∧
  ((((∀ {o : Option (AV × Option AObj)}, GP (.bool true) false o = some (.tup [], none)) ∧
  (∀ {o : Option (AV × Option AObj)}, GP (.bool false) true o = some (.tup [], none))) ∧
  ((∀ {o : Option (AV × Option AObj)}, GP (.bool false) false o = o) ∧
  ((∀ {p : Prop} [Decidable p] {o : Option (AV × Option AObj)} (h : p), GP (.bool (decide p)) true o = o) ∧
  (∀ {p : Prop} [Decidable p] {o : Option (AV × Option AObj)} (h : p), GP (.bool (decide p)) false o = some (.tup [], none))))) ∧
  (((∀ {p : Prop} [Decidable p] {o : Option (AV × Option AObj)} (h : ¬ p), GP (.bool (decide p)) true o = some (.tup [], none)) ∧
  (∀ {p : Prop} [Decidable p] {o : Option (AV × Option AObj)} (h : ¬ p), GP (.bool (decide p)) false o = o)) ∧
  ((∀ {H : Heap} {v : AV}, prO (some (.plain v)) H = some (.ret v, H)) ∧
  ((∀ {H : Heap} {sz n : Nat} {cs : List AV}, prO (some (.fresh sz n cs)) H = some (.ret (.sl sz n cs (.own H.length)), H ++ [.tok sz])) ∧
  (∀ {H : Heap} {es : List (AV × AV)}, prO (some (.fmap es)) H = some (.ret (.mp H.length), H ++ [.map es]))))))) ∧
  (((((∀ {H : Heap} {c : List (AV × Bool)}, prO (some (.pan c)) H = some (.pan c, H)) ∧
  (∀ (E : Env) (j : Nat) (v : AV) (i : Nat), upd E j v i = if i = j then v else E i)) ∧
  ((∀ (E : Env) (j : Nat) (v : AV), updD E (some j) v = upd E j v) ∧
  ((∀ (E : Env) (v : AV), updD E none v = E) ∧
  (∀ (E : Env) (i : Nat), X.evE E (.t i) = E i)))) ∧
  (((∀ (E : Env) (v : AV), X.evE E (.c v) = v) ∧
  (∀ (a : AV) (r : List AV), argE (a :: r) 0 = a)) ∧
  ((∀ (a : AV) (r : List AV) (i : Nat), argE (a :: r) (i + 1) = argE r i) ∧
  ((∀ (i : Nat), argE [] i = .tup []) ∧
  (∀ {k : IntKind} {a : Int} {b : Int} {ek : EqK} {xo : X} {yo : X}, binV .add ek xo yo (.int k a) (.int k b) = some (.int k (k.wrap (a + b)))))))) ∧
  ((((∀ {k : IntKind} {a : Int} {b : Int} {ek : EqK} {xo : X} {yo : X}, binV .sub ek xo yo (.int k a) (.int k b) = some (.int k (k.wrap (a - b)))) ∧
  (∀ {k : IntKind} {a : Int} {b : Int} {ek : EqK} {xo : X} {yo : X}, binV .mul ek xo yo (.int k a) (.int k b) = some (.int k (k.wrap (a * b))))) ∧
  ((∀ {k : IntKind} {a : Int} {b : Int} {ek : EqK} {xo : X} {yo : X} (h : b ≠ 0), binV .quo ek xo yo (.int k a) (.int k b) = some (.int k (k.wrap (a.tdiv b)))) ∧
  ((∀ {k : IntKind} {a : Int} {b : Int} {ek : EqK} {xo : X} {yo : X} (h : b ≠ 0), binV .rem ek xo yo (.int k a) (.int k b) = some (.int k (a.tmod b))) ∧
  (∀ {x : Int} (h1 : -9223372036854775808 ≤ x) (h2 : x < 9223372036854775808), IntKind.i64.wrap x = x)))) ∧
  (((∀ {x : Int} (h1 : 0 ≤ x) (h2 : x < 18446744073709551616), IntKind.u64.wrap x = x) ∧
  (∀ {α : Type} {p : Prop} [Decidable p] {a b : α} (h : p), (if p then a else b) = a)) ∧
  ((∀ {α : Type} {p : Prop} [Decidable p] {a b : α} (h : ¬ p), (if p then a else b) = b) ∧
  ((∀ {α : Type} {f : α → List AV} {k : Nat} [h : Even f k] (pre suf : List α), (encs f (pre ++ suf)).drop (pre.length * k) = encs f suf) ∧
  (∀ {α : Type} {f : α → List AV} {k : Nat} [h : Even f k] (pre suf : List α) (rest : List AV), (encs f (pre ++ suf) ++ rest).drop (pre.length * k) = encs f suf ++ rest))))))) :=
  ⟨⟨⟨⟨⟨(by intros; first | exact ap_mkslice | (apply ap_mkslice <;> assumption)),
  (by intros; first | exact ap_mkbnd | (apply ap_mkbnd <;> assumption))⟩,
  ⟨(by intros; first | exact ap_boxe | (apply ap_boxe <;> assumption)),
  ⟨(by intros; first | exact ap_appc | (apply ap_appc <;> assumption)),
  (by intros; first | exact ap_idxb | (apply ap_idxb <;> assumption))⟩⟩⟩,
  ⟨⟨(by intros; first | exact ap_cntb | (apply ap_cntb <;> assumption)),
  (by intros; first | exact ap_slarr | (apply ap_slarr <;> assumption))⟩,
  ⟨(by intros; first | exact ap_s2arr | (apply ap_s2arr <;> assumption)),
  ⟨(by intros; first | exact ap1E_guard | (apply ap1E_guard <;> assumption)),
  (by intros; first | exact gp_tt | (apply gp_tt <;> assumption))⟩⟩⟩⟩,
  ⟨⟨⟨(by intros; first | exact gp_tf | (apply gp_tf <;> assumption)),
  (by intros; first | exact gp_ft | (apply gp_ft <;> assumption))⟩,
  ⟨(by intros; first | exact gp_ff | (apply gp_ff <;> assumption)),
  ⟨(by intros; first | exact gp_dtt | (apply gp_dtt <;> assumption)),
  (by intros; first | exact gp_dtf | (apply gp_dtf <;> assumption))⟩⟩⟩,
  ⟨⟨(by intros; first | exact gp_dft | (apply gp_dft <;> assumption)),
  (by intros; first | exact gp_dff | (apply gp_dff <;> assumption))⟩,
  ⟨(by intros; first | exact prO_plain | (apply prO_plain <;> assumption)),
  ⟨(by intros; first | exact prO_fresh | (apply prO_fresh <;> assumption)),
  (by intros; first | exact prO_fmap | (apply prO_fmap <;> assumption))⟩⟩⟩⟩⟩,
  ⟨⟨⟨⟨(by intros; first | exact prO_pan | (apply prO_pan <;> assumption)),
  (by intros; first | exact upd_app | (apply upd_app <;> assumption))⟩,
  ⟨(by intros; first | exact updD_some | (apply updD_some <;> assumption)),
  ⟨(by intros; first | exact updD_none | (apply updD_none <;> assumption)),
  (by intros; first | exact evE_t | (apply evE_t <;> assumption))⟩⟩⟩,
  ⟨⟨(by intros; first | exact evE_c | (apply evE_c <;> assumption)),
  (by intros; first | exact argE_zero | (apply argE_zero <;> assumption))⟩,
  ⟨(by intros; first | exact argE_succ | (apply argE_succ <;> assumption)),
  ⟨(by intros; first | exact argE_nil | (apply argE_nil <;> assumption)),
  (by intros; first | exact bv_add | (apply bv_add <;> assumption))⟩⟩⟩⟩,
  ⟨⟨⟨(by intros; first | exact bv_sub | (apply bv_sub <;> assumption)),
  (by intros; first | exact bv_mul | (apply bv_mul <;> assumption))⟩,
  ⟨(by intros; first | exact bv_quo | (apply bv_quo <;> assumption)),
  ⟨(by intros; first | exact bv_rem | (apply bv_rem <;> assumption)),
  (by intros; first | exact wrap_i64 | (apply wrap_i64 <;> assumption))⟩⟩⟩,
  ⟨⟨(by intros; first | exact wrap_u64 | (apply wrap_u64 <;> assumption)),
  (by intros; first | exact ite_pos | (apply ite_pos <;> assumption))⟩,
  ⟨(by intros; first | exact ite_neg | (apply ite_neg <;> assumption)),
  ⟨(by intros; first | exact drop_pre | (apply drop_pre <;> assumption)),
  (by intros; first | exact drop_pre2 | (apply drop_pre2 <;> assumption))⟩⟩⟩⟩⟩⟩
theorem wk6 : ((((((∀ {α : Type} (f : α → List AV) (x : α) (l : List α), encs f (x :: l) = f x ++ encs f l) ∧
  (∀ {α : Type} (f : α → List AV), encs f [] = [])) ∧
  ((∀ (j : Nat), ((j + 1 : Nat) : Int) = (j : Int) + 1) ∧
  ((∀ {k : IntKind} {a : Int} {b : Int} {ek : EqK} {xo : X} {yo : X}, binV .eql ek xo yo (.int k a) (.int k b) = some (.bool (decide (a = b)))) ∧
  (∀ {k : IntKind} {a : Int} {b : Int} {ek : EqK} {xo : X} {yo : X}, binV .neq ek xo yo (.int k a) (.int k b) = some (.bool (decide (¬ a = b))))))) ∧
  (((∀ {k : IntKind} {a : Int} {b : Int} {ek : EqK} {xo : X} {yo : X}, binV .lss ek xo yo (.int k a) (.int k b) = some (.bool (decide (a < b)))) ∧
  (∀ {k : IntKind} {a : Int} {b : Int} {ek : EqK} {xo : X} {yo : X}, binV .leq ek xo yo (.int k a) (.int k b) = some (.bool (decide (a ≤ b))))) ∧
  ((∀ {k : IntKind} {a : Int} {b : Int} {ek : EqK} {xo : X} {yo : X}, binV .gtr ek xo yo (.int k a) (.int k b) = some (.bool (decide (b < a)))) ∧
  ((∀ {k : IntKind} {a : Int} {b : Int} {ek : EqK} {xo : X} {yo : X}, binV .geq ek xo yo (.int k a) (.int k b) = some (.bool (decide (b ≤ a)))) ∧
  (∀ {xo : X} {yo : X} {p q : Bool}, binV .eql .bool xo yo (.bool p) (.bool q) = some (.bool (p == q))))))) ∧
  ((((∀ {xo : X} {yo : X} {p q : Bool}, binV .neq .bool xo yo (.bool p) (.bool q) = some (.bool (!(p == q)))) ∧
  (∀ {p : Prop} [Decidable p], unV .not (.bool (decide p)) = some (.bool (decide (¬ p))))) ∧
  ((∀ {p : Bool}, unV .not (.bool p) = some (.bool !p)) ∧
  ((∀ {k : IntKind} {a : Int}, unV .neg (.int k a) = some (.int k (k.wrap (0 - a)))) ∧
  (∀ (k : IntKind) (n : Int), AV.flat (.int k n) = [.int k n])))) ∧
  (((∀ (k : IntKind) (n : Int), AV.one (.int k n) = true) ∧
  (∀ (b : Bool), AV.flat (.bool b) = [.bool b])) ∧
  ((∀ (b : Bool), AV.one (.bool b) = true) ∧
  ((∀ (s : ByteArray), AV.flat (.str s) = [.str s]) ∧
  (∀ (s : ByteArray), AV.one (.str s) = true)))))) ∧
  (((((∀ (sz n : Nat) (cs : List AV) (tk : Tk), AV.flat (.sl sz n cs tk) = [.sl sz n cs tk]) ∧
  (∀ (sz n : Nat) (cs : List AV) (tk : Tk), AV.one (.sl sz n cs tk) = true)) ∧
  ((∀ (sz id off n : Nat), AV.flat (.msl sz id off n) = [.msl sz id off n]) ∧
  ((∀ (sz id off n : Nat), AV.one (.msl sz id off n) = true) ∧
  (∀ (id off : Nat), AV.flat (.ptr id off) = [.ptr id off])))) ∧
  (((∀ (id off : Nat), AV.one (.ptr id off) = true) ∧
  (AV.flat (.nilp ) = [.nilp ])) ∧
  ((AV.one (.nilp ) = true) ∧
  ((∀ (cs : List AV), AV.flat (.eptr cs) = [.eptr cs]) ∧
  (∀ (cs : List AV), AV.one (.eptr cs) = true))))) ∧
  ((((∀ (f : FuncId) (cs : List AV), AV.flat (.fn f cs) = [.fn f cs]) ∧
  (∀ (f : FuncId) (cs : List AV), AV.one (.fn f cs) = true)) ∧
  ((∀ (f : FuncId) (cs : List AV), AV.flat (.bnd f cs) = [.bnd f cs]) ∧
  ((∀ (f : FuncId) (cs : List AV), AV.one (.bnd f cs) = true) ∧
  (∀ (s i n : Nat), AV.flat (.rsl s i n) = [.rsl s i n])))) ∧
  (((∀ (s i n : Nat), AV.one (.rsl s i n) = true) ∧
  (AV.flat (.nilf ) = [.nilf ])) ∧
  ((AV.one (.nilf ) = true) ∧
  ((∀ (t : TypeId) (v : AV), AV.flat (.iface t v) = [.iface t v]) ∧
  (∀ (t : TypeId) (v : AV), AV.one (.iface t v) = true))))))) :=
  ⟨⟨⟨⟨⟨(by intros; first | exact encs_cons | (apply encs_cons <;> assumption)),
  (by intros; first | exact encs_nil | (apply encs_nil <;> assumption))⟩,
  ⟨(by intros; first | exact cast_succ | (apply cast_succ <;> assumption)),
  ⟨(by intros; first | exact bv_eql | (apply bv_eql <;> assumption)),
  (by intros; first | exact bv_neq | (apply bv_neq <;> assumption))⟩⟩⟩,
  ⟨⟨(by intros; first | exact bv_lss | (apply bv_lss <;> assumption)),
  (by intros; first | exact bv_leq | (apply bv_leq <;> assumption))⟩,
  ⟨(by intros; first | exact bv_gtr | (apply bv_gtr <;> assumption)),
  ⟨(by intros; first | exact bv_geq | (apply bv_geq <;> assumption)),
  (by intros; first | exact bv_beql | (apply bv_beql <;> assumption))⟩⟩⟩⟩,
  ⟨⟨⟨(by intros; first | exact bv_bneq | (apply bv_bneq <;> assumption)),
  (by intros; first | exact uv_not_dec | (apply uv_not_dec <;> assumption))⟩,
  ⟨(by intros; first | exact uv_not | (apply uv_not <;> assumption)),
  ⟨(by intros; first | exact uv_neg | (apply uv_neg <;> assumption)),
  (by intros; first | exact flat_int | (apply flat_int <;> assumption))⟩⟩⟩,
  ⟨⟨(by intros; first | exact one_int | (apply one_int <;> assumption)),
  (by intros; first | exact flat_bool | (apply flat_bool <;> assumption))⟩,
  ⟨(by intros; first | exact one_bool | (apply one_bool <;> assumption)),
  ⟨(by intros; first | exact flat_str | (apply flat_str <;> assumption)),
  (by intros; first | exact one_str | (apply one_str <;> assumption))⟩⟩⟩⟩⟩,
  ⟨⟨⟨⟨(by intros; first | exact flat_sl | (apply flat_sl <;> assumption)),
  (by intros; first | exact one_sl | (apply one_sl <;> assumption))⟩,
  ⟨(by intros; first | exact flat_msl | (apply flat_msl <;> assumption)),
  ⟨(by intros; first | exact one_msl | (apply one_msl <;> assumption)),
  (by intros; first | exact flat_ptr | (apply flat_ptr <;> assumption))⟩⟩⟩,
  ⟨⟨(by intros; first | exact one_ptr | (apply one_ptr <;> assumption)),
  (by intros; first | exact flat_nilp | (apply flat_nilp <;> assumption))⟩,
  ⟨(by intros; first | exact one_nilp | (apply one_nilp <;> assumption)),
  ⟨(by intros; first | exact flat_eptr | (apply flat_eptr <;> assumption)),
  (by intros; first | exact one_eptr | (apply one_eptr <;> assumption))⟩⟩⟩⟩,
  ⟨⟨⟨(by intros; first | exact flat_fn | (apply flat_fn <;> assumption)),
  (by intros; first | exact one_fn | (apply one_fn <;> assumption))⟩,
  ⟨(by intros; first | exact flat_bnd | (apply flat_bnd <;> assumption)),
  ⟨(by intros; first | exact one_bnd | (apply one_bnd <;> assumption)),
  (by intros; first | exact flat_rsl | (apply flat_rsl <;> assumption))⟩⟩⟩,
  ⟨⟨(by intros; first | exact one_rsl | (apply one_rsl <;> assumption)),
  (by intros; first | exact flat_nilf | (apply flat_nilf <;> assumption))⟩,
  ⟨(by intros; first | exact one_nilf | (apply one_nilf <;> assumption)),
  ⟨(by intros; first | exact flat_iface | (apply flat_iface <;> assumption)),
  (by intros; first | exact one_iface | (apply one_iface <;> assumption))⟩⟩⟩⟩⟩⟩
theorem wk7 : ((((AV.flat (.nili ) = [.nili ]) ∧
  ((AV.one (.nili ) = true) ∧
  (∀ (id : Nat), AV.flat (.mp id) = [.mp id]))) ∧
  ((∀ (id : Nat), AV.one (.mp id) = true) ∧
  ((AV.flat (.nilm ) = [.nilm ]) ∧
  (AV.one (.nilm ) = true)))) ∧
  (((∀ (cs : List AV), AV.flat (.agg cs) = cs) ∧
  ((∀ {α : Type} {sz : Nat} {f : α → List AV} (l : List α), (slvR sz f l).one = true) ∧
  (∀ {α : Type} {sz : Nat} {f : α → List AV} (l : List α), (slvR sz f l).flat = [slvR sz f l]))) ∧
  ((∀ {tab : FuncId → Option AFun} {res : List ARes} {P : Out → Heap → Prop} {E : Env} {H : Heap}, Ends tab res P .ret E [] H = match resE E H res with | some vs => P (.ret (tupled vs)) H | none => False) ∧
  ((∀ {tab : FuncId → Option AFun} {res : List ARes} {P : Out → Heap → Prop} {E : Env} {H : Heap}, Ends tab res P .normal E [] H = match resE E H res with | some vs => P (.ret (tupled vs)) H | none => False) ∧
  (∀ {tab : FuncId → Option AFun} {res : List ARes} {P : Out → Heap → Prop} {E : Env} {H : Heap} {c : List (AV × Bool)}, Ends tab res P (.panic c) E [] H = P (.pan c) H))))) :=
  ⟨⟨⟨(by intros; first | exact flat_nili | (apply flat_nili <;> assumption)),
  ⟨(by intros; first | exact one_nili | (apply one_nili <;> assumption)),
  (by intros; first | exact flat_mp | (apply flat_mp <;> assumption))⟩⟩,
  ⟨(by intros; first | exact one_mp | (apply one_mp <;> assumption)),
  ⟨(by intros; first | exact flat_nilm | (apply flat_nilm <;> assumption)),
  (by intros; first | exact one_nilm | (apply one_nilm <;> assumption))⟩⟩⟩,
  ⟨⟨(by intros; first | exact flat_agg | (apply flat_agg <;> assumption)),
  ⟨(by intros; first | exact slvR_one | (apply slvR_one <;> assumption)),
  (by intros; first | exact slvR_flat | (apply slvR_flat <;> assumption))⟩⟩,
  ⟨(by intros; first | exact ends_ret | (apply ends_ret <;> assumption)),
  ⟨(by intros; first | exact ends_normal | (apply ends_normal <;> assumption)),
  (by intros; first | exact ends_panic | (apply ends_panic <;> assumption))⟩⟩⟩⟩
theorem wkl : ((((((type_of% @Nat.zero_mul) ∧ (type_of% @Int.tdiv_eq_ediv_of_nonneg)) ∧ ((type_of% @Int.tmod_eq_emod_of_nonneg) ∧ ((type_of% @List.length_append.{0}) ∧ (type_of% @Nat.mul_one)))) ∧ (((type_of% @Bool.not_false) ∧ ((type_of% @Bool.not_true) ∧ (type_of% @decide_eq_true_eq))) ∧ ((type_of% @Bool.not_eq_true) ∧ ((type_of% @eq_self.{1}) ∧ (type_of% @ne_eq.{1}))))) ∧ ((((type_of% @and_true) ∧ (type_of% @true_and)) ∧ ((type_of% @and_self) ∧ ((type_of% @not_true_eq_false) ∧ (type_of% @not_false_eq_true)))) ∧ (((type_of% @if_true.{1}) ∧ ((type_of% @if_false.{1}) ∧ (type_of% @decide_true))) ∧ ((type_of% @decide_false) ∧ ((type_of% @Int.toNat_natCast) ∧ (type_of% @Int.natCast_nonneg)))))) ∧ (((((type_of% @List.drop_zero.{0}) ∧ (type_of% @List.take_zero.{0})) ∧ ((type_of% @List.take_succ_cons.{0}) ∧ ((type_of% @List.drop_succ_cons.{0}) ∧ (type_of% @Bool.and_self)))) ∧ (((type_of% @Bool.and_true) ∧ ((type_of% @Bool.true_and) ∧ (type_of% @beq_self_eq_true.{0}))) ∧ ((type_of% @Nat.one_mul) ∧ ((type_of% @List.drop_nil.{0}) ∧ (type_of% @List.map_nil.{0, 0}))))) ∧ ((((type_of% @List.map_cons.{0, 0}) ∧ ((type_of% @Option.map_some.{0, 0}) ∧ (type_of% @List.length_nil.{0}))) ∧ ((type_of% @List.length_cons.{0}) ∧ ((type_of% @Nat.add_zero) ∧ (type_of% @Nat.sub_zero)))) ∧ (((type_of% @List.nil_append.{0}) ∧ ((type_of% @List.cons_append.{0}) ∧ (type_of% @List.getElem?_cons_zero.{0}))) ∧ ((type_of% @List.getElem?_cons_succ.{0}) ∧ ((type_of% @List.set_cons_zero.{0}) ∧ (type_of% @List.set_cons_succ.{0}))))))) :=
  ⟨⟨⟨⟨⟨@Nat.zero_mul, @Int.tdiv_eq_ediv_of_nonneg⟩, ⟨@Int.tmod_eq_emod_of_nonneg, ⟨@List.length_append.{0}, @Nat.mul_one⟩⟩⟩, ⟨⟨@Bool.not_false, ⟨@Bool.not_true, @decide_eq_true_eq⟩⟩, ⟨@Bool.not_eq_true, ⟨@eq_self.{1}, @ne_eq.{1}⟩⟩⟩⟩, ⟨⟨⟨@and_true, @true_and⟩, ⟨@and_self, ⟨@not_true_eq_false, @not_false_eq_true⟩⟩⟩, ⟨⟨@if_true.{1}, ⟨@if_false.{1}, @decide_true⟩⟩, ⟨@decide_false, ⟨@Int.toNat_natCast, @Int.natCast_nonneg⟩⟩⟩⟩⟩, ⟨⟨⟨⟨@List.drop_zero.{0}, @List.take_zero.{0}⟩, ⟨@List.take_succ_cons.{0}, ⟨@List.drop_succ_cons.{0}, @Bool.and_self⟩⟩⟩, ⟨⟨@Bool.and_true, ⟨@Bool.true_and, @beq_self_eq_true.{0}⟩⟩, ⟨@Nat.one_mul, ⟨@List.drop_nil.{0}, @List.map_nil.{0, 0}⟩⟩⟩⟩, ⟨⟨⟨@List.map_cons.{0, 0}, ⟨@Option.map_some.{0, 0}, @List.length_nil.{0}⟩⟩, ⟨@List.length_cons.{0}, ⟨@Nat.add_zero, @Nat.sub_zero⟩⟩⟩, ⟨⟨@List.nil_append.{0}, ⟨@List.cons_append.{0}, @List.getElem?_cons_zero.{0}⟩⟩, ⟨@List.getElem?_cons_succ.{0}, ⟨@List.set_cons_zero.{0}, @List.set_cons_succ.{0}⟩⟩⟩⟩⟩⟩
theorem wk : ((((type_of% @wk1) ∧ (type_of% @wk2)) ∧ ((type_of% @wk3) ∧ (type_of% @wk4))) ∧ (((type_of% @wk5) ∧ (type_of% @wk6)) ∧ ((type_of% @wk7) ∧ (type_of% @wkl)))) :=
  ⟨⟨⟨wk1, wk2⟩, ⟨wk3, wk4⟩⟩, ⟨⟨wk5, wk6⟩, ⟨wk7, wkl⟩⟩⟩
theorem en : ((((type_of% @upd_app) ∧ ((type_of% @updD_some) ∧ (type_of% @updD_none))) ∧ ((type_of% @if_true.{1}) ∧ ((type_of% @if_false.{1}) ∧ (type_of% @List.length_append.{0})))) ∧ (((type_of% @List.length_cons.{0}) ∧ ((type_of% @List.length_nil.{0}) ∧ (type_of% @Nat.zero_add))) ∧ (((type_of% @Nat.add_zero) ∧ (type_of% @cast_succ)) ∧ ((type_of% @argE_zero) ∧ (type_of% @argE_succ))))) :=
  ⟨⟨⟨@upd_app, ⟨@updD_some, @updD_none⟩⟩, ⟨@if_true.{1}, ⟨@if_false.{1}, @List.length_append.{0}⟩⟩⟩, ⟨⟨@List.length_cons.{0}, ⟨@List.length_nil.{0}, @Nat.zero_add⟩⟩, ⟨⟨@Nat.add_zero, @cast_succ⟩, ⟨@argE_zero, @argE_succ⟩⟩⟩⟩
end Go.Am
